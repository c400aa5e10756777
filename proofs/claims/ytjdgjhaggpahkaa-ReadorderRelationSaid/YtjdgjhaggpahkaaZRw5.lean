/- Reading order: Sort of the package. Conditions: at most 60 boxes, or more than 4096. -/
import Derived.Test.YtjdgjhaggpahkaaZWA
import Derived.Test.YtjdgjhaggpahkaaZNr2
import Derived.Test.YtjdgjhaggpahkaaZWB
import Derived.Test.YtjdgjhaggpahkaaZRz1
import Derived.Carry
set_option linter.unusedVariables false
set_option linter.unusedSimpArgs false
namespace Go.Proofs.Ytjdgjhaggpahkaa
open Go.RowKit
/-- how many entries a map has: the loop's measure -/
def mapSz (w : World) (b : Nat) : Nat := match w.heap[b]? with | some (.map es _) => es.size | _ => 0
/-- indexes and an error come back -/
def RetOE (w : World) (q : List Nat × Int) (e : Ending) (w' : World) : Prop := ∃ v, e = .returned (.tuple #[v, .int .i64 q.2]) ∧ Zs w' v q.1 ∧ Below w.heap.size w w'
theorem sortE_bad {l : List Bx} (h : chkB l 0 ≠ 0) : sortE l = ([], chkB l 0) := by unfold sortE; rw [if_neg h]
theorem sortE_ok {l : List Bx} (h : chkB l 0 = 0) : sortE l = okE (sortB l l.length []) := by unfold sortE; rw [if_pos h]
theorem chk0 {l : List Bx} {g : Int} (h : chkB l g = 0) : l.length ≤ 4096 ∧ 0 ≤ g ∧ g ≤ 4096 ∧ ∀ b ∈ l, okB b = true := by
 unfold chkB at h
 split at h
 ·cases h
 ·split at h
  ·cases h
  ·rename_i h1 h2
   refine ⟨by omega, ?_, ?_, fun b hb => ?_⟩
   ·exact Int.not_lt.1 fun e => h2 (.inl e)
   ·exact Int.not_lt.1 fun e => h2 (.inr (.inl e))
   ·cases hq : okB b
    ·exact absurd (.inr (.inr (List.any_eq_true.2 ⟨b, hb, by rw [hq]; rfl⟩))) h2
    ·rfl
theorem iter_of {w : World} {r b c : Nat} {seen : Array Nat} {o : Nat} (h : w.heap[r]? = some (.mapIter (some b) c seen o)) : w.iterSeen r = seen := by unfold World.iterSeen; rw [h]
set_option maxRecDepth 100000 in
set_option maxHeartbeats 8000000 in
theorem GSort_g (l : List Bx) (A : Option Addr) (c : Nat) {w : World} (hl : Qb w A c l) :
  Calls Try.prog 12 #[.slice A l.length c] w (RetOE w (sortE l)) := by
 obtain ⟨n, hn⟩ : ∃ n, l.length = n := ⟨_, rfl⟩
 obtain ⟨k, hk⟩ : ∃ k, chkB l 0 = k := ⟨_, rfl⟩
 have HK := hid (show Calls Try.prog 26 #[.slice A n c, .int .i64 0] w (RetI w k) from by rw [← hk, ← hn]; exact Gchk_g l A c 0 hl)
 have E1 := hid fun (h : k ≠ 0) => (show sortE l = ([], k) from by subst hk; exact sortE_bad h)
 have E0 := hid fun (h : k = 0) => sortE_ok (hk.trans h)
 have H4 := hid fun (h : k = 0) => (show n ≤ 4096 from hn ▸ (chk0 (hk.trans h)).1)
 have hM := hid fun (j : Nat) (hj : j < n) (W : World) (hb : Below w.heap.size w W) => (hl.below hb).at_ (k := j) (by omega)
 have cc := Nat.le_trans hl.cap hl.max
 rw [hn] at cc ⊢
 replace hn := hid hn
 generalize sortE l = E at *
 clear hl hk
 have hmm := @run_makeMap Try.prog
 go_enter Try.func12, Try.ntmps12
 go_wp2_with fail
 refine HK.out.mono ?_
 rintro e w1 ⟨rfl, HB⟩
 clear HK
 by_cases hk0 : k = 0
 ·replace E0 := hid (E0.out hk0)
  clear E1
  have h4 := H4.out hk0
  clear H4
  subst hk0
  obtain ⟨w0, hw0⟩ : ∃ w0, w0 = w1 := ⟨_, rfl⟩
  subst hw0
  go_wp2
  go_loopw [25] (fun s25 wr => ∃ i : Nat, s25 = .int .i64 i ∧ i ≤ n ∧ wr.heap[w0.heap.size]? = some (.map (mapZ (entF (List.range i) fun k => (cntB l [] k : Int))) i) ∧ Below w0.heap.size w0 wr) (fun s25 _ => n - (intOf s25).toNat)
  case atStart => exact ⟨0, rfl, by omega, heap_alloc_new _ _, (Below.refl _ _).alloc (Nat.le_refl _) _⟩
  case round =>
   obtain ⟨i, rfl, hi, hm, hb⟩ := hrel
   by_cases hin : i < n
   ·have hii : (i : Int) < (n : Int) := by omega
    have hil : i < l.length := by have := hn.out; omega
    obtain ⟨b, o, hA3, e0, e1, e2, e3⟩ := hM.out i hin wr (bel_step HB hb)
    subst hA3
    obtain ⟨q, hq⟩ : ∃ q, l[i] = q := ⟨_, rfl⟩
    rw [hq] at e0 e1 e2 e3
    have hqd := hid (show l.getD i default = q by rw [← hq]; simp [hil])
    replace hq := hid hq
    obtain ⟨x, y, bw, bh⟩ := q
    dsimp only at e0 e1 e2 e3
    go_upto_region 8 with fail
    have hbA := hb.alloc hb.size (.cells #[.int .i64 x, .int .i64 y, .int .i64 bw, .int .i64 bh] 31)
    have hmA := (heap_alloc_old wr (.cells #[.int .i64 x, .int .i64 y, .int .i64 bw, .int .i64 bh] 31) (Array.getElem?_eq_some_iff.1 hm).1).trans hm
    have r0 := rng_alloc (w := wr) (cs := [.int .i64 x, .int .i64 y, .int .i64 bw, .int .i64 bh]) (t := 31)
    generalize hg : wr.heap.size = g at *
    replace hg := hid hg
    generalize wr.alloc (.cells #[.int .i64 x, .int .i64 y, .int .i64 bw, .int .i64 bh] 31) = v at *
    have c0 : v.cell? ⟨g, 0, none⟩ = some (.int .i64 x) := r0 0 _ rfl
    have c1 : v.cell? ⟨g, 1, none⟩ = some (.int .i64 y) := r0 1 _ rfl
    have c2 : v.cell? ⟨g, 2, none⟩ = some (.int .i64 bw) := r0 2 _ rfl
    have c3 : v.cell? ⟨g, 3, none⟩ = some (.int .i64 bh) := r0 3 _ rfl
    clear r0 hb hm e0 e1 e2 e3
    go_wp2
    go_loopw [32, 8] (fun s32 s8 wz => ∃ j : Nat, s32 = .int .i64 j ∧ s8 = .int .i64 (cntUp l j i : Nat) ∧ j ≤ n ∧ Below v.heap.size v wz) (fun s32 _ _ => n - (intOf s32).toNat)
    case atStart => exact ⟨0, rfl, rfl, by omega, Below.refl _ _⟩
    case round =>
     obtain ⟨j, rfl, rfl, hj, hv⟩ := hrel
     by_cases hjn : j < n
     ·have hjj : (j : Int) < (n : Int) := by omega
      have hjl : j < l.length := by have := hn.out; omega
      obtain ⟨b', o', hA4, f0, f1, f2, f3⟩ := hM.out j hjn wr (bel_step HB (bel_step hbA hv))
      cases hA4
      obtain ⟨q2, hq2⟩ : ∃ q, l[j] = q := ⟨_, rfl⟩
      rw [hq2] at f0 f1 f2 f3
      have hqd2 : l.getD j default = q2 := by rw [← hq2]; simp [hjl]
      clear hq2
      have hsuc := cntUp_succ l j i
      rw [hqd2, hqd.out] at hsuc
      obtain ⟨t, ht⟩ : ∃ t, befB q2 ⟨x, y, bw, bh⟩ = t := ⟨_, rfl⟩
      rw [ht] at hsuc
      have HBf := hid fun (W : World) => (show Calls Try.prog 14 #[.agg #[.int .i64 q2.x, .int .i64 q2.y, .int .i64 q2.w, .int .i64 q2.h], .agg #[.int .i64 x, .int .i64 y, .int .i64 bw, .int .i64 bh]] W (RetB W t) from by rw [← ht]; exact GBefore_g q2 ⟨x, y, bw, bh⟩ W)
      replace hsuc := hid hsuc
      obtain ⟨x2, y2, bw2, bh2⟩ := q2
      dsimp only at f0 f1 f2 f3 HBf
      have c0 := keep_cell hv c0
      have c1 := keep_cell hv c1
      have c2 := keep_cell hv c2
      have c3 := keep_cell hv c3
      clear hqd2 ht
      go_upto_region 12 with fail
      have hv2 := hv.alloc hv.size (.cells #[.int .i64 x2, .int .i64 y2, .int .i64 bw2, .int .i64 bh2] 31)
      have r0 := rng_alloc (w := wr) (cs := [.int .i64 x2, .int .i64 y2, .int .i64 bw2, .int .i64 bh2]) (t := 31)
      have c0 := keep_alloc (b := (.cells #[.int .i64 x2, .int .i64 y2, .int .i64 bw2, .int .i64 bh2] 31)) c0
      have c1 := keep_alloc (b := (.cells #[.int .i64 x2, .int .i64 y2, .int .i64 bw2, .int .i64 bh2] 31)) c1
      have c2 := keep_alloc (b := (.cells #[.int .i64 x2, .int .i64 y2, .int .i64 bw2, .int .i64 bh2] 31)) c2
      have c3 := keep_alloc (b := (.cells #[.int .i64 x2, .int .i64 y2, .int .i64 bw2, .int .i64 bh2] 31)) c3
      generalize hg2 : wr.heap.size = g2 at *
      generalize wr.alloc (.cells #[.int .i64 x2, .int .i64 y2, .int .i64 bw2, .int .i64 bh2] 31) = z at *
      have d0 : z.cell? ⟨g2, 0, none⟩ = some (.int .i64 x2) := r0 0 _ rfl
      have d1 : z.cell? ⟨g2, 1, none⟩ = some (.int .i64 y2) := r0 1 _ rfl
      have d2 : z.cell? ⟨g2, 2, none⟩ = some (.int .i64 bw2) := r0 2 _ rfl
      have d3 : z.cell? ⟨g2, 3, none⟩ = some (.int .i64 bh2) := r0 3 _ rfl
      clear r0 f0 f1 f2 f3 hg2 hv
      go_wp2_with fail
      refine (HBf.out _).mono ?_
      rintro e w5 ⟨rfl, hq5⟩
      have hv := bel_step hv2 hq5
      clear hq5 hv2 HBf c0 c1 c2 c3 d0 d1 d2 d3
      have hcl : cntUp l j i ≤ j := by unfold cntUp; exact Nat.le_trans (List.length_filter_le _ _) (by simp)
      cases t
      ·go_wp2
       go_roundw
       case rel => exact ⟨j + 1, by go_num, by rw [hsuc.out]; rfl, by omega, hv⟩
       case measure => simp [intOf]; omega
      ·go_wp2
       go_roundw
       case rel => exact ⟨j + 1, by go_num, by rw [hsuc.out]; go_num, by omega, hv⟩
       case measure => simp [intOf]; omega
     ·obtain rfl : j = n := by omega
      have hjj : ¬ (j : Int) < (j : Int) := by omega
      have hmB := (hv.block _ (Array.getElem?_eq_some_iff.1 hmA).1).trans hmA
      have hb5 := hbA.trans (hv.mono hbA.size)
      have hno : ∀ p ∈ entF (List.range i) (fun k => (cntB l [] k : Int)), p.1 ≠ i := entF_no (by simp)
      have hfin : (cntUp l j i : Int) = (cntB l [] i : Int) := by rw [← cntUp_all, hn.out]
      have hsn := entF_snoc i (fun k => (cntB l [] k : Int))
      replace hsn := hid hsn
      replace hno := hid hno
      rw [hfin]
      clear hfin hmA hbA hv c0 c1 c2 c3
      go_wp2_with (at_mapUpdate; refine wpList_updNew rfl (.tmp 42) (.tmp 43) (.tmp 44) 45 rfl Try.underlying45 Try.underlying3 w0.heap.size _ i (cntB l [] i : Int) hmB hno.out rfl rfl rfl ?_; intro w6 hm6 hg6 hs6)
      go_roundw
      case rel => exact ⟨i + 1, by go_num, by omega, by rw [← hsn.out]; exact hm6, Below.grown hb5 hg6 hb5.size (fun k e => by cases e; exact Nat.le_refl _)⟩
      case measure => simp [intOf]; omega
   ·obtain rfl : i = n := by omega
    have hii : ¬ (i : Int) < (i : Int) := by omega
    obtain ⟨w2, hw2⟩ : ∃ w2, w2 = wr := ⟨_, rfl⟩
    subst hw2
    have hO0 : OwnZ w2 (w0.heap.size + 1) (.slice none 0 0) [] := OwnZ.nil _ _
    rw [← leftK_nil i] at hm
    have hle0 : (leftK i []).length + ([] : List Nat).length = i := by rw [leftK_nil]; simp
    obtain ⟨R, hR⟩ : ∃ R, sortB l i [] = R := ⟨_, rfl⟩
    rw [show l.length = i from hn.out, hR] at E0
    go_wp2
    go_loopw [11] (fun s11 wr => ∃ out : List Nat, OwnZ wr (w0.heap.size + 1) s11 out ∧ wr.heap[w0.heap.size]? = some (.map (mapZ (entF (leftK i out) fun k => (cntB l out k : Int))) i) ∧ (leftK i out).length + out.length = i ∧ Hid (sortB l (i - out.length) out = R) ∧ Below w0.heap.size w0 wr) (fun _ wr => mapSz wr w0.heap.size)
    case atStart => exact ⟨[], hO0, hm, hle0, hid (by simpa using hR), hb⟩
    case round =>
     clear hO0 hm hle0 hR hb
     obtain ⟨out, hO, hm, hle, hR, hb⟩ := hrel
     have hsz : (mapZ (entF (leftK i out) fun k => (cntB l out k : Int))).size = (leftK i out).length := by simp [mapZ, entF]
     by_cases h0 : (leftK i out).length = 0
     ·have hol : out.length = i := by omega
      have hRo : R = some out := by
       have := hR.out
       rw [hol, Nat.sub_self] at this
       exact this.symm
      subst hRo
      obtain rfl := E0.out
      rw [h0] at hsz
      have hln := fun (ty : TypeId) => run_len_map (P := Try.prog) (w := wr) 45 ty w0.heap.size _ i Try.underlying45 hm
      rw [hsz] at hln
      have hB2 := bel_step HB hb
      have hO2 : Zs wr u11 out := hO.zs
      clear hM E0 hR
      go_wp2
      refine bodyPost_ret (v := .tuple #[u11, .int .i64 0]) ?_ rfl ?_
      ·simp [results, Try.results12, go_sem]
      ·exact ⟨_, rfl, hO2, hB2⟩
     ·have hln := fun (ty : TypeId) => run_len_map (P := Try.prog) (w := wr) 45 ty w0.heap.size _ i Try.underlying45 hm
      rw [hsz] at hln
      have hpos : (0 : Int) < ((leftK i out).length : Int) := by omega
      obtain ⟨sz, hszz⟩ : ∃ z, (leftK i out).length = z := ⟨_, rfl⟩
      rw [hszz] at hln hpos
      obtain ⟨zz, hzz⟩ : ∃ z : Int, ((sz : Nat) : Int) = z := ⟨_, rfl⟩
      rw [hzz] at hln hpos
      replace hzz := hid hzz
      have hltE : ∀ p ∈ entF (leftK i out) (fun k => (cntB l out k : Int)), p.1 < i := fun p hp => by
       obtain ⟨k, hk, rfl⟩ := List.mem_map.1 hp
       exact (leftK_mem.1 hk).1
      have hndE : ((entF (leftK i out) (fun k => (cntB l out k : Int))).map (·.1)).Nodup := by rw [entF_keys]; exact leftK_nodup _ _
      replace hltE := hid hltE
      replace hndE := hid hndE
      replace hszz := hid hszz
      have hmz := hid (show mapSz wr w0.heap.size = sz from by unfold mapSz; rw [hm]; dsimp only; rw [hsz]; exact hszz.out)
      clear hsz
      go_wp2_with (at_range; refine wpList_rangeZ rfl (.tmp 49) 45 rfl Try.underlying45 w0.heap.size i _ hm rfl ?_)
      go_frame
      obtain ⟨w3, hw3⟩ : ∃ w3, w3 = wr := ⟨_, rfl⟩
      subst hw3
      have hb4 : Below w3.heap.size w3 (w3.alloc (.mapIter (some w0.heap.size) i #[] i)) := (Below.refl _ _).alloc (Nat.le_refl _) _
      have hr4 : (w3.alloc (.mapIter (some w0.heap.size) i #[] i)).heap[w3.heap.size]? = some (.mapIter (some w0.heap.size) i #[] i) := heap_alloc_new _ _
      have hblt : w0.heap.size < w3.heap.size := (Array.getElem?_eq_some_iff.1 hm).1
      have hN0 := hid (NxtB_0 l out)
      go_loopw [12] (fun s12 wz => ∃ (x : Int) (seen : Array Nat), s12 = .int .i64 x ∧ Hid (NxtB l out seen x) ∧ wz.heap[w3.heap.size]? = some (.mapIter (some w0.heap.size) i seen i) ∧ Below w3.heap.size w3 wz) (fun _ wz => ((leftK i out).filter fun k => !(wz.iterSeen w3.heap.size).contains k).length)
      case atStart => exact ⟨-1, #[], rfl, hN0, hr4, hb4⟩
      case round =>
       clear hb4 hr4 hN0
       obtain ⟨x, seen, rfl, hN, hr4, hb4⟩ := hrel
       have hm4 := (hb4.block _ hblt).trans hm
       go_wp2_with (at_next; refine wpList_nextZ rfl (.tmp 50) rfl w0.heap.size w3.heap.size i seen _ hr4 hm4 hltE.out hndE.out (by omega) rfl ?_ ?_)
       ·intro hdone
        have hend := NxtB_end hN.out (fun k hk => hdone k _ (entF_mem.2 ⟨by rw [hn.out] at hk; exact hk, rfl⟩))
        rw [hn.out] at hend
        have hend := hid hend
        have hbz := bel_step hb hb4
        have hOz : OwnZ wr (w0.heap.size + 1) u11 out := hO.below hb4
        clear hdone hN hltE hndE hr4
        rcases hend.out with ⟨rfl, hnx⟩ | ⟨k, rfl, hkl, hnx⟩
        ·have hRn : R = none := by
          obtain ⟨d, hd⟩ : ∃ d, i - out.length = d + 1 := ⟨i - out.length - 1, by have := hszz.out; omega⟩
          have := hR.out
          rw [hd, sortB, hnx] at this
          exact this.symm
         subst hRn
         obtain rfl := E0.out
         have hB2 := bel_step HB hbz
         clear hM E0 hR hend hnx hO hOz hm hm4 hb hb4 hbz hln
         go_wp2
         refine bodyPost_ret (v := .tuple #[.slice none 0 0, .int .i64 31]) ?_ rfl ?_
         ·simp [results, Try.results12, go_sem]
         ·exact ⟨_, rfl, Zs.nil _, hB2⟩
        ·have hk0 : ¬ (k : Int) < 0 := by omega
         have hki := (leftK_mem.1 hkl).1
         have hko := hid (leftK_mem.1 hkl).2
         obtain ⟨E1, E2, hs1, hs2, hs3⟩ := entF_del (f := fun k => (cntB l out k : Int)) hkl
         rw [hs1] at hm4
         have hst := hid (leftK_step hkl)
         have hol : out.length ≤ i := by omega
         replace hs2 := hid hs2
         replace hs3 := hid hs3
         have hblt2 : w0.heap.size + 1 ≤ wr.heap.size := Nat.le_trans hblt hb4.size
         have hneb : some w0.heap.size ≠ u11.ownBlock := fun e => by have := (hOz.lt e.symm).1; omega
         replace hneb := hid hneb
         clear hend hs1 hm hb hb4 hln hO hi hii
         obtain ⟨v1, hv1⟩ : ∃ v1, v1 = wr := ⟨_, rfl⟩
         subst hv1
         obtain ⟨w4, hdel, hm5, hg4, hz4⟩ := del_ex (P := Try.prog) 45 3 0 Try.underlying45 Try.underlying3 w0.heap.size i E1 E2 k _ hm4 hs2.out
         have hO4 := hOz.grown hg4 (Or.inr hneb.out.symm)
         have hb4 := Below.grown hbz hg4 hbz.size (fun k e => by cases e; exact Nat.le_refl _)
         rw [← hz4] at hblt2
         clear hm4 hs2 hg4 hbz hOz hz4
         go_upto_region 29 with (at_builtin; refine wpList_app1 rfl (.tmp 72) (.tmp 74) rfl (w0.heap.size + 1) u11 out k w4.heap.size rfl (hO4.below ((Below.refl _ _).alloc (Nat.le_refl _) _)) rfl (at_one rfl) (by omega) (by simp; omega) ?_; intro s5 w5 hO5 hg5 hat5)
         have hOa := hO4.below ((Below.refl _ _).alloc (Nat.le_refl _) (.cells #[.int .i64 (k : Int)] 3))
         have hm6 : w5.heap[w0.heap.size]? = some (.map (mapZ (E1 ++ E2)) i) := (hg5.block _ (by simp; omega) hneb.out).trans ((heap_alloc_old w4 _ (by omega)).trans hm5)
         have hb5 := Below.grownZ (hb4.alloc hb4.size (.cells #[.int .i64 (k : Int)] 3)) hOa hg5 (by simp; omega) (by omega)
         have hlt5 : w0.heap.size < w5.heap.size := (Array.getElem?_eq_some_iff.1 hm6).1
         obtain ⟨out2, ho2⟩ : ∃ o, out ++ [k] = o := ⟨_, rfl⟩
         have hkn := hid (show k < l.length ∧ out.contains k = false from ⟨by have := hn.out; omega, by simpa using hko.out⟩)
         have hmid := hid fun (seen : Array Nat) (j : Nat) (hj : j ∈ seen) => (show midF l out k seen j = (cntB l out2 j : Int) from by rw [← ho2]; exact midF_all hkn.out.1 hkn.out.2 hj)
         have hRd := hid (show (leftK i out2).length + out2.length = i ∧ sortB l (i - out2.length) out2 = R ∧ (leftK i out2).length < sz from by
          have e1 := hst.out
          have e2 := hszz.out
          rw [ho2] at e1
          have e3 : out2.length = out.length + 1 := by rw [← ho2]; simp
          refine ⟨by omega, ?_, by omega⟩
          have := hR.out
          obtain ⟨d, hd⟩ : ∃ d, i - out.length = d + 1 := ⟨i - out.length - 1, by omega⟩
          rw [hd, sortB, hnx] at this
          dsimp only at this
          rw [ho2] at this
          rw [show i - out2.length = d by omega]
          exact this)
         rw [ho2] at hO5
         have e3 := hs3.out
         rw [ho2] at e3
         rw [e3, entF_congr (g := midF l out k #[]) (fun j _ => (midF_none l out k j).symm)] at hm6
         have hoi := hid (fun (j : Nat) (hj : j ∈ leftK i out2) => (leftK_mem.1 hj).1)
         have hlt : ∀ p ∈ entF (leftK i out2) (midF l out k #[]), p.1 < i := fun p hp => by
          obtain ⟨k, hk, rfl⟩ := List.mem_map.1 hp
          exact (leftK_mem.1 hk).1
         replace hlt := hid hlt
         replace ho2 := hid ho2
         replace hlt5 := hid hlt5
         clear e3 hs3 hst hszz hR hnx hO4 hm5 hb4 hg5 hat5 hOa hdel hneb hblt2 hblt hkl hend hle hol h0 hpos
         go_wp2_with (at_range; refine wpList_rangeZ rfl (.tmp 76) 45 rfl Try.underlying45 w0.heap.size i _ hm6 rfl ?_)
         obtain ⟨w6, hw6⟩ : ∃ w6, w6 = w5 := ⟨_, rfl⟩
         subst hw6
         have hb6 := hb5.alloc hb5.size (.mapIter (some w0.heap.size) i #[] i)
         have hO6 := hO5.below ((Below.refl _ _).alloc (Nat.le_refl _) (.mapIter (some w0.heap.size) i #[] i))
         have hm7 := (heap_alloc_old w6 (.mapIter (some w0.heap.size) i #[] i) hlt5.out).trans hm6
         have hr7 := heap_alloc_new w6 (.mapIter (some w0.heap.size) i #[] i)
         have hne7 := hid (show some w6.heap.size ≠ s5.ownBlock from fun e => by have := (hO5.lt e.symm).2; omega)
         have hne8 := hid (show w6.heap.size ≠ w0.heap.size from by have := hlt5.out; omega)
         go_loopw [15] (fun _ wz => ∃ seen : Array Nat, wz.heap[w6.heap.size]? = some (.mapIter (some w0.heap.size) i seen i) ∧ wz.heap[w0.heap.size]? = some (.map (mapZ (entF (leftK i out2) (midF l out k seen))) i) ∧ OwnZ wz (w0.heap.size + 1) s5 out2 ∧ Below w0.heap.size w0 wz ∧ w6.heap.size < wz.heap.size) (fun _ wz => ((leftK i out2).filter fun k => !(wz.iterSeen w6.heap.size).contains k).length)
         case atStart => exact ⟨#[], hr7, hm7, hO6, hb6, by simp⟩
         case round =>
          clear hm7 hr7 hO6 hb6 hm6 hO5 hb5
          obtain ⟨seen, hr7, hm7, hO6, hb6, hls⟩ := hrel
          have hltE := hid (show ∀ p ∈ entF (leftK i out2) (midF l out k seen), p.1 < i from fun p hp => by
           obtain ⟨k, hk, rfl⟩ := List.mem_map.1 hp
           exact (leftK_mem.1 hk).1)
          have hndE := hid (show ((entF (leftK i out2) (midF l out k seen)).map (·.1)).Nodup from by rw [entF_keys]; exact leftK_nodup _ _)
          go_wp2_with (at_next; refine wpList_nextZ rfl (.tmp 77) rfl w0.heap.size w6.heap.size i seen _ hr7 hm7 hltE.out hndE.out hne8.out rfl ?_ ?_)
          ·intro hdone
           have e := entF_congr (R := leftK i out2) (f := midF l out k seen) (g := fun j => (cntB l out2 j : Int)) (fun j hj => hmid.out seen j (hdone j _ (entF_mem.2 ⟨hj, rfl⟩)))
           rw [e] at hm7
           obtain ⟨r1, r2, r3⟩ := hRd.out
           have hms : mapSz wr w0.heap.size = (leftK i out2).length := by unfold mapSz; rw [hm7]; simp [mapZ, entF]
           replace hms := hid hms
           replace r1 := hid r1
           replace r2 := hid r2
           replace r3 := hid r3
           clear e hdone hltE hndE hr7 hmid hlt hRd
           go_wp2
           go_roundw
           case rel => exact ⟨out2, hO6, hm7, r1.out, r2, hb6⟩
           case measure => rw [hms.out, hmz.out]; exact r3.out
          ·intro j v w7 hmem hns hr8 hg7 hs7 hen
           obtain ⟨hjl, hjv⟩ := entF_mem.1 hmem
           rw [midF_not hns] at hjv
           subst hjv
           obtain ⟨cv, hcv⟩ : ∃ z, cntB l out j = z := ⟨_, rfl⟩
           have hcl : cv ≤ 4096 := by have := cntB_le l out j; have := hn.out; omega
           have hji := hoi.out j hjl
           have hm8 := (hg7.block _ (Nat.lt_trans hlt5.out hls) (by intro e; exact hne8.out (Option.some.inj e).symm)).trans hm7
           have hO8 := hO6.grown hg7 (Or.inr hne7.out.symm)
           have hb8 := Below.grown hb6 hg7 hb6.size (fun k e => by cases e; exact Nat.le_of_lt hlt5.out)
           have hme := hid (seen_dec hjl hns)
           have hi0 : wr.iterSeen w6.heap.size = seen := by unfold World.iterSeen; rw [hr7]
           have hi1 : w7.iterSeen w6.heap.size = seen.push j := by unfold World.iterSeen; rw [hr8]
           have hl8 : w6.heap.size < w7.heap.size := by omega
           have hup := hid (fun v => entF_upd (f := midF l out k seen) v hjl (leftK_nodup _ _))
           have hps := hid (fun (m : Nat) => midF_push (l := l) (out := out) (j := k) (k := m) hns)
           have hmn := hid (midF_not (l := l) (out := out) (j := k) hns)
           rw [hcv] at hen
           replace hi0 := hid hi0
           replace hi1 := hid hi1
           obtain ⟨b, o, hA3, e0, e1, e2, e3⟩ := hM.out k hki w7 (bel_step HB hb8)
           subst hA3
           obtain ⟨b', o', hA4, f0, f1, f2, f3⟩ := hM.out j hji w7 (bel_step HB hb8)
           cases hA4
           obtain ⟨q1, hq1⟩ : ∃ q, l[k]'(by have := hn.out; omega) = q := ⟨_, rfl⟩
           obtain ⟨q2, hq2⟩ : ∃ q, l[j]'(by have := hn.out; omega) = q := ⟨_, rfl⟩
           rw [hq1] at e0 e1 e2 e3
           rw [hq2] at f0 f1 f2 f3
           have hd1 := hid (show l.getD k default = q1 by rw [← hq1]; simp [hkn.out.1])
           have hd2 := hid (show l.getD j default = q2 by rw [← hq2]; have := hn.out; simp [show j < l.length by omega])
           obtain ⟨t, ht⟩ : ∃ t, befB q1 q2 = t := ⟨_, rfl⟩
           have HBf := hid fun (W : World) => (show Calls Try.prog 14 #[.agg #[.int .i64 q1.x, .int .i64 q1.y, .int .i64 q1.w, .int .i64 q1.h], .agg #[.int .i64 q2.x, .int .i64 q2.y, .int .i64 q2.w, .int .i64 q2.h]] W (RetB W t) from by rw [← ht]; exact GBefore_g q1 q2 W)
           have htd := hid (show befB (l.getD k default) (l.getD j default) = t by rw [hd1.out, hd2.out]; exact ht)
           have hkk : (k : Int) < (i : Int) := by omega
           have hjj : (j : Int) < (i : Int) := by omega
           have hwr : IntKind.i64.wrap ((cv : Int) - 1) = (cv : Int) - 1 := by rw [IntKind.wrap_i64]; omega
           replace hcv := hid hcv
           replace hmem := hid hmem
           clear hq1 hq2 hd1 hd2 ht hm7 hr7 hO6 hb6 hg7 hs7 hls hmid hRd hlt hltE hndE hns
           obtain ⟨x, y, bw, bh⟩ := q1
           obtain ⟨x2, y2, bw2, bh2⟩ := q2
           dsimp only at e0 e1 e2 e3 f0 f1 f2 f3 HBf
           go_upto_region 32 with fail
           go_region_held3 (fun w' => ((w'.cell? ⟨b, o + k * 4, none⟩ = some (.int .i64 x) ∧ w'.cell? ⟨b, o + k * 4 + 1, none⟩ = some (.int .i64 y)) ∧ (w'.cell? ⟨b, o + k * 4 + 2, none⟩ = some (.int .i64 bw) ∧ w'.cell? ⟨b, o + k * 4 + 3, none⟩ = some (.int .i64 bh))) ∧ ((w'.cell? ⟨b, o + j * 4, none⟩ = some (.int .i64 x2) ∧ w'.cell? ⟨b, o + j * 4 + 1, none⟩ = some (.int .i64 y2)) ∧ (w'.cell? ⟨b, o + j * 4 + 2, none⟩ = some (.int .i64 bw2) ∧ w'.cell? ⟨b, o + j * 4 + 3, none⟩ = some (.int .i64 bh2)))) (first | ((try dsimp only); repeat' (first | with_reducible assumption | apply And.intro | (with_reducible refine keep_alloc ?_) | (with_reducible refine keep_drew ?_) | (with_reducible refine keep_set (by omega) ?_) | (with_reducible refine keep_sets (by omega) ?_) | (with_reducible refine keep_cell (W := w7) ?_ ?_) | fail))) ((go_at_call 14; (with_reducible refine (HBf.out _).mono ?_); rintro e v2 ⟨rfl, hq_⟩; have qy5 : Below w7.heap.size w7 v2 := bel_step BG hq_))
           all_goals
            have hm9 := (qy5.block _ (Nat.lt_trans hlt5.out hl8)).trans hm8
            have hr9 := (qy5.block _ hl8).trans hr8
            have hO9 := hO8.below qy5
            have hb9 := bel_step hb8 qy5
            have hl9 := Nat.lt_of_lt_of_le hl8 qy5.size
            clear hm8 hr8 hO8 hb8 hl8 qy5 e0 e1 e2 e3 f0 f1 f2 f3 HBf hen hM HB
            cases t
            ·have hE := entF_congr (R := leftK i out2) (f := midF l out k seen) (g := midF l out k (seen.push j)) (fun m _ => by
              rw [hps.out m, htd.out]
              by_cases e : m = j
              ·subst e; rw [if_pos rfl, hmn.out]; simp
              ·rw [if_neg e])
             rw [hE] at hm9
             replace hr9 := hid hr9
             replace hm9 := hid hm9
             clear hE hup hps hmn
             go_wp2
             go_roundw
             case rel => exact ⟨seen.push j, hr9.out, hm9.out, hO9, hb9, hl9⟩
             case measure => rw [hi0.out, iter_of hr9.out]; exact hme.out
            ·obtain ⟨F1, F2, s1, s2, s3⟩ := hup.out ((cv : Int) - 1)
             rw [s1, hmn.out, hcv.out] at hm9
             have hE := entF_congr (R := leftK i out2) (f := fun m => if m = j then (cv : Int) - 1 else midF l out k seen m) (g := midF l out k (seen.push j)) (fun m _ => by
              rw [hps.out m, htd.out]
              by_cases e : m = j
              ·subst e; rw [if_pos rfl, if_pos rfl, hcv.out]; rfl
              ·rw [if_neg e, if_neg e])
             rw [hE] at s3
             replace s3 := hid s3
             replace s2 := hid s2
             clear hE hup hps hmn s1
             go_wp2_with (at_mapUpdate; refine wpList_updAt rfl (.tmp 92) (.tmp 93) (.tmp 95) 45 rfl Try.underlying45 Try.underlying3 w0.heap.size i F1 F2 j _ ((cv : Int) - 1) hm9 s2.out rfl rfl rfl ?_; intro w9 hm10 hg9 hs9)
             rw [s3.out] at hm10
             have hr10 := (hg9.block _ hl9 (by intro e; exact hne8.out (Option.some.inj e))).trans hr9
             have hO10 := hO9.grown hg9 (Or.inr (fun e => by have := (hO9.lt e).1; omega))
             have hb10 := Below.grown hb9 hg9 hb9.size (fun k e => by cases e; exact Nat.le_refl _)
             have hl10 : w6.heap.size < w9.heap.size := by omega
             replace hr10 := hid hr10
             replace hm10 := hid hm10
             clear hm9 hr9 hO9 hb9 hl9 hg9 hs9
             dsimp only [Act.put]
             go_roundw
             case rel => exact ⟨seen.push j, hr10.out, hm10.out, hO10, hb10, hl10⟩
             case measure => rw [hi0.out, iter_of hr10.out]; exact hme.out
       ·intro k v w4 hmem hns hr5 hg5 hs5 hen
        obtain ⟨hkl, hkv⟩ := entF_mem.1 hmem
        have hb5 := Below.grown hb4 hg5 hb4.size (fun k e => by cases e; exact Nat.le_refl _)
        obtain ⟨cv, hcv⟩ : ∃ z, cntB l out k = z := ⟨_, rfl⟩
        rw [hcv] at hkv
        subst hkv
        have hkp := hid fun (h : ¬ (cv = 0 ∧ (x < 0 ∨ (k : Int) < x))) => NxtB_keep (i := k) hN.out (by rw [hcv]; exact h)
        have hkt := hid fun (h : cv = 0) (hx : x < 0 ∨ (k : Int) < x) => NxtB_take (i := k) hN.out (by rw [hn.out]; exact hkl) (hcv.trans h) hx
        have hi0 : wr.iterSeen w3.heap.size = seen := by unfold World.iterSeen; rw [hr4]
        have hi1 : w4.iterSeen w3.heap.size = seen.push k := by unfold World.iterSeen; rw [hr5]
        have hme := hid (seen_dec hkl hns)
        replace hr5 := hid hr5
        replace hb5 := hid hb5
        replace hi0 := hid hi0
        replace hi1 := hid hi1
        clear hm4 hr4 hb4 hN hmem hg5 hs5 hcv hns hltE hndE hm hO hb hln
        by_cases hc : cv = 0
        ·subst hc
         by_cases hx : x < 0
         ·have hN2 := hid (hkt.out rfl (Or.inl hx))
          clear hkp hkt
          go_wp2_with fail
          go_roundw
          case rel => first | exact ⟨k, seen.push k, rfl, hN2, hr5.out, hb5.out⟩ | exact ⟨seen.push k, hN2, hr5.out, hb5.out⟩
          case measure =>
           have h := hme.out
           have e1 := hi0.out
           have e2 := hi1.out
           rw [e1, e2]
           first | exact h | simpa using h
         ·by_cases hx2 : (k : Int) < x
          ·have hN2 := hid (hkt.out rfl (Or.inr hx2))
           clear hkp hkt
           go_wp2_with fail
           go_roundw
           case rel => first | exact ⟨k, seen.push k, rfl, hN2, hr5.out, hb5.out⟩ | exact ⟨seen.push k, hN2, hr5.out, hb5.out⟩
           case measure =>
            have h := hme.out
            have e1 := hi0.out
            have e2 := hi1.out
            rw [e1, e2]
            first | exact h | simpa using h
          ·have hN2 := hid (hkp.out (by omega))
           clear hkp hkt
           go_wp2_with fail
           go_roundw
           case rel => first | exact ⟨x, seen.push k, rfl, hN2, hr5.out, hb5.out⟩ | exact ⟨seen.push k, hN2, hr5.out, hb5.out⟩
           case measure =>
            have h := hme.out
            have e1 := hi0.out
            have e2 := hi1.out
            rw [e1, e2]
            first | exact h | simpa using h
        ·have hN2 := hid (hkp.out (fun h => hc h.1))
         have hce : ((cv : Int) == 0) = false := beq_eq_false_iff_ne.2 (by omega)
         clear hkp hkt
         go_wp2_with fail
         go_roundw
         case rel => first | exact ⟨x, seen.push k, rfl, hN2, hr5.out, hb5.out⟩ | exact ⟨seen.push k, hN2, hr5.out, hb5.out⟩
         case measure =>
          have h := hme.out
          have e1 := hi0.out
          have e2 := hi1.out
          rw [e1, e2]
          first | exact h | simpa using h
 ·obtain rfl := E1.out hk0
  clear E1 E0 hM
  go_wp2
  refine bodyPost_ret (v := .tuple #[.slice none 0 0, .int .i64 k]) ?_ rfl ?_
  ·simp [results, Try.results12, go_sem]
  ·exact ⟨_, rfl, Zs.nil _, HB⟩
end Go.Proofs.Ytjdgjhaggpahkaa
