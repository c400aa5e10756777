/- Reading order: Sort of the reference. Conditions: at most 60 boxes, or more than 4096. -/
import Derived.Test.YtjdgjhaggpahkaaZRw5
set_option linter.unusedVariables false
set_option linter.unusedSimpArgs false
namespace Go.Proofs.Ytjdgjhaggpahkaa
open Go.RowKit Go.Deep
theorem infoBool : (Try.prog.info? 4).map (fun i => (i.zero, i.size, i.bytes)) = some (some (.bool false), 1, 1) := by kernel_rfl
def tkF (out : List Nat) : Nat → Value := fun j => .bool (out.contains j)
theorem rowK {a w : World} {b n : Nat} {t : TypeId} {f : Nat → Value} (h : a.rowIs b t n f) (hb : Below a.heap.size a w) : w.rowIs b t n f := h.of_block (hb.block b h.lt)
theorem free_no {l : List Bx} {out : List Nat} {i k : Nat} (hk : k < l.length) (h1 : out.contains k = false) (h2 : befB (l.getD k default) (l.getD i default) = true) : freeB l out i = false := by
 unfold freeB
 rw [List.all_eq_false]
 exact ⟨k, List.mem_range.2 hk, by rw [h1, h2]; simp⟩
theorem free_yes {l : List Bx} {out : List Nat} {i : Nat} (h : ∀ k, k < l.length → out.contains k = true ∨ befB (l.getD k default) (l.getD i default) = false) : freeB l out i = true := by
 unfold freeB
 rw [List.all_eq_true]
 intro k hk
 rcases h k (List.mem_range.1 hk) with e | e <;> rw [e] <;> simp
set_option maxHeartbeats 4000000 in
theorem Rfirst_g (l : List Bx) (A : Option Addr) (c : Nat) (out : List Nat) (g i : Nat) {w : World} (hl : Qb w A c l) (h4 : l.length ≤ 4096) (hi : i < l.length) (hT : w.rowIs g 4 l.length (tkF out)) :
  Calls Try.prog 28 #[.slice A l.length c, .slice (some ⟨g, 0, none⟩) l.length l.length, .int .i64 i] w (RetB w (freeB l out i)) := by
 obtain ⟨n, hn⟩ : ∃ n, l.length = n := ⟨_, rfl⟩
 obtain ⟨R, hR⟩ : ∃ R, freeB l out i = R := ⟨_, rfl⟩
 have hM := hid fun (j : Nat) (hj : j < n) (W : World) (hb : Below w.heap.size w W) => (hl.below hb).at_ (k := j) (by omega)
 have hTk := hid fun (j : Nat) (hj : j < n) (W : World) (hb : Below w.heap.size w W) => (rowK hT hb).cell (i := j) (hn ▸ hj)
 have hNo := hid fun (k : Nat) (hk : k < n) (h1 : out.contains k = false) (h2 : befB (l.getD k default) (l.getD i default) = true) => (show R = false from hR ▸ free_no (by omega) h1 h2)
 have hYe := hid fun (h : ∀ k, k < n → out.contains k = true ∨ befB (l.getD k default) (l.getD i default) = false) => (show R = true from hR ▸ free_yes (fun k hk => h k (by omega)))
 have cc := Nat.le_trans hl.cap hl.max
 obtain ⟨b, o, hA3, _⟩ := hl.at_ hi
 subst hA3
 rw [hn] at hi h4 cc ⊢
 rw [hR]
 replace hn := hid hn
 have HB := Below.refl w.heap.size w
 have hii : (i : Int) < (n : Int) := by omega
 clear hl hR hT
 go_enter Try.func28, Try.ntmps28
 go_wp2
 go_loopw [7] (fun s7 wr => ∃ j : Nat, s7 = .int .i64 j ∧ j ≤ n ∧ Hid (∀ k, k < j → out.contains k = true ∨ befB (l.getD k default) (l.getD i default) = false) ∧ Below w.heap.size w wr) (fun s7 _ => n - (intOf s7).toNat)
 case atStart => exact ⟨0, rfl, by omega, fun k hk => by omega, HB⟩
 case round =>
  clear HB
  obtain ⟨j, rfl, hj, hA, HB⟩ := hrel
  by_cases hjn : j < n
  ·have hjj : (j : Int) < (n : Int) := by omega
   have c0 := hTk.out j hjn wr HB
   unfold tkF at c0
   have hno := hid (hNo.out j hjn)
   have hstep := hid fun (h : out.contains j = true ∨ befB (l.getD j default) (l.getD i default) = false) (k : Nat) (hk : k < j + 1) => (show out.contains k = true ∨ befB (l.getD k default) (l.getD i default) = false from by
    by_cases e : k = j
    ·subst e; exact h
    ·exact hA.out k (by omega))
   obtain ⟨t, ht⟩ : ∃ t, out.contains j = t := ⟨_, rfl⟩
   rw [ht] at c0 hno hstep
   cases t
   ·obtain ⟨b1, o1, hA1, e0, e1, e2, e3⟩ := hM.out j hjn wr HB
    cases hA1
    obtain ⟨b2, o2, hA2, f0, f1, f2, f3⟩ := hM.out i hi wr HB
    cases hA2
    obtain ⟨q1, hq1⟩ : ∃ q, l[j]'(by have := hn.out; omega) = q := ⟨_, rfl⟩
    obtain ⟨q2, hq2⟩ : ∃ q, l[i]'(by have := hn.out; omega) = q := ⟨_, rfl⟩
    rw [hq1] at e0 e1 e2 e3
    rw [hq2] at f0 f1 f2 f3
    have hd1 : l.getD j default = q1 := by rw [← hq1]; have := hn.out; simp [show j < l.length by omega]
    have hd2 : l.getD i default = q2 := by rw [← hq2]; have := hn.out; simp [show i < l.length by omega]
    obtain ⟨s, hs⟩ : ∃ s, befB q1 q2 = s := ⟨_, rfl⟩
    have HBf := hid fun (W : World) => (show Calls Try.prog 15 #[.agg #[.int .i64 q1.x, .int .i64 q1.y, .int .i64 q1.w, .int .i64 q1.h], .agg #[.int .i64 q2.x, .int .i64 q2.y, .int .i64 q2.w, .int .i64 q2.h]] W (RetB W s) from by rw [← hs]; exact RBefore_g q1 q2 W)
    have hst : befB (l.getD j default) (l.getD i default) = s := by rw [hd1, hd2]; exact hs
    rw [hst] at hno hstep
    replace hst := hid hst
    clear hq1 hq2 hd1 hd2 hs hM hTk hA ht hNo
    obtain ⟨x, y, bw, bh⟩ := q1
    obtain ⟨x2, y2, bw2, bh2⟩ := q2
    dsimp only at e0 e1 e2 e3 f0 f1 f2 f3 HBf
    go_upto_region 4 with fail
    go_region_held3 (fun w' => w'.cell? ⟨g, j, none⟩ = some (.bool false) ∧ ((w'.cell? ⟨b, o + j * 4, none⟩ = some (.int .i64 x) ∧ w'.cell? ⟨b, o + j * 4 + 1, none⟩ = some (.int .i64 y)) ∧ (w'.cell? ⟨b, o + j * 4 + 2, none⟩ = some (.int .i64 bw) ∧ w'.cell? ⟨b, o + j * 4 + 3, none⟩ = some (.int .i64 bh))) ∧ ((w'.cell? ⟨b, o + i * 4, none⟩ = some (.int .i64 x2) ∧ w'.cell? ⟨b, o + i * 4 + 1, none⟩ = some (.int .i64 y2)) ∧ (w'.cell? ⟨b, o + i * 4 + 2, none⟩ = some (.int .i64 bw2) ∧ w'.cell? ⟨b, o + i * 4 + 3, none⟩ = some (.int .i64 bh2)))) (first | ((try dsimp only); repeat' (first | with_reducible assumption | apply And.intro | (with_reducible refine keep_alloc ?_) | (with_reducible refine keep_drew ?_) | (with_reducible refine keep_set (by omega) ?_) | (with_reducible refine keep_sets (by omega) ?_) | (with_reducible refine keep_cell (W := wr) ?_ ?_) | fail))) ((go_at_call 15; (with_reducible refine (HBf.out _).mono ?_); rintro e v2 ⟨rfl, hq_⟩; have qy5 : Below wr.heap.size wr v2 := bel_step BG hq_))
    all_goals
     replace HB := bel_step HB qy5
     clear qy5 c0 e0 e1 e2 e3 f0 f1 f2 f3 HBf
     cases s
     ·have hA2 := hid (hstep.out (Or.inr (by first | rfl | trivial)))
      clear hstep hno hYe
      go_wp2
      go_roundw
      case rel => exact ⟨j + 1, by go_num, by omega, hA2, HB⟩
      case measure => simp [intOf]; omega
     ·obtain rfl := hno.out (by first | rfl | trivial) (by first | rfl | trivial)
      clear hstep hno hYe
      go_wp2
      go_ret
      exact ⟨rfl, HB⟩
   ·have hA2 := hid (hstep.out (Or.inl (by first | rfl | trivial)))
    clear hstep hno hYe hM hTk hA ht hNo
    go_upto_region 4 with fail
    go_quiet (fail)
    have hv : Below wr.heap.size wr (wr.drewN nq) := below_drewN (Below.refl _ _) _
    generalize hvq : wr.drewN nq = v2 at hv ⊢
    replace HB := bel_step HB hv
    clear hvq hv c0
    go_wp2
    go_roundw
    case rel => exact ⟨j + 1, by go_num, by omega, hA2, HB⟩
    case measure => simp [intOf]; omega
  ·obtain rfl : j = n := by omega
   have hjj : ¬ (j : Int) < (j : Int) := by omega
   obtain rfl := hYe.out hA.out
   clear hM hTk hNo hYe hA
   go_wp2
   go_ret
   exact ⟨rfl, HB⟩
/-- the least good index from m on -/
def goodB (l : List Bx) (out : List Nat) (k : Nat) : Bool := !out.contains k && freeB l out k
def NxR (l : List Bx) (out : List Nat) (m : Nat) (x : Int) : Prop :=
 (x = -1 ∧ ∀ k, m ≤ k → k < l.length → goodB l out k = false) ∨ ∃ k : Nat, x = (k : Int) ∧ m ≤ k ∧ k < l.length ∧ goodB l out k = true ∧ ∀ k', m ≤ k' → k' < k → goodB l out k' = false
theorem NxR_0 (l : List Bx) (out : List Nat) : NxR l out l.length (-1) := Or.inl ⟨rfl, fun k h1 h2 => by omega⟩
theorem NxR_no {l : List Bx} {out : List Nat} {m : Nat} {x : Int} (h : NxR l out (m + 1) x) (hg : goodB l out m = false) : NxR l out m x := by
 rcases h with ⟨rfl, h⟩ | ⟨k, rfl, h1, h2, h3, h4⟩
 ·refine Or.inl ⟨rfl, fun k h1 h2 => ?_⟩
  by_cases e : k = m
  ·subst e; exact hg
  ·exact h k (by omega) h2
 ·refine Or.inr ⟨k, rfl, by omega, h2, h3, fun k' h5 h6 => ?_⟩
  by_cases e : k' = m
  ·subst e; exact hg
  ·exact h4 k' (by omega) h6
theorem NxR_yes {l : List Bx} {out : List Nat} {m : Nat} (hm : m < l.length) (hg : goodB l out m = true) : NxR l out m (m : Int) :=
 Or.inr ⟨m, rfl, Nat.le_refl _, hm, hg, fun k' h1 h2 => by omega⟩
theorem NxR_end {l : List Bx} {out : List Nat} {x : Int} (h : NxR l out 0 x) : (x = -1 ∧ nextB l out = none) ∨ ∃ k : Nat, x = (k : Int) ∧ k < l.length ∧ out.contains k = false ∧ nextB l out = some k := by
 have key : ∀ k, goodB l out k = false → out.contains k = false → cntB l out k ≠ 0 := fun k h1 h2 h3 => by
  unfold goodB at h1
  rw [h2, cnt_zero.1 h3] at h1
  cases h1
 rcases h with ⟨rfl, h⟩ | ⟨k, rfl, h1, h2, h3, h4⟩
 ·exact Or.inl ⟨rfl, next_none fun k hk ho => key k (h k (by omega) hk) ho⟩
 ·unfold goodB at h3
  rw [Bool.and_eq_true] at h3
  have h5 : out.contains k = false := by simpa using h3.1
  exact Or.inr ⟨k, rfl, h2, h5, next_some h2 h5 (cnt_zero.2 h3.2) fun k' h6 h7 => key k' (h4 k' (by omega) h6) h7⟩
theorem tkF_step (out : List Nat) (k j : Nat) : (if j = k then Value.bool true else tkF out j) = tkF (out ++ [k]) j := by
 unfold tkF
 by_cases e : j = k
 ·subst e; simp
 ·simp [e]
set_option maxRecDepth 100000 in
set_option maxHeartbeats 8000000 in
theorem RSort_g (l : List Bx) (A : Option Addr) (c : Nat) {w : World} (hl : Qb w A c l) :
  Calls Try.prog 13 #[.slice A l.length c] w (RetOE w (sortE l)) := by
 obtain ⟨n, hn⟩ : ∃ n, l.length = n := ⟨_, rfl⟩
 obtain ⟨k, hk⟩ : ∃ k, chkB l 0 = k := ⟨_, rfl⟩
 have HK := hid (show Calls Try.prog 27 #[.slice A n c, .int .i64 0] w (RetI w k) from by rw [← hk, ← hn]; exact Rchk_g l A c 0 hl)
 have E1 := hid fun (h : k ≠ 0) => (show sortE l = ([], k) from by subst hk; exact sortE_bad h)
 have E0 := hid fun (h : k = 0) => sortE_ok (hk.trans h)
 have H4 := hid fun (h : k = 0) => (show n ≤ 4096 from hn ▸ (chk0 (hk.trans h)).1)
 have HF := hid fun (W : World) (hb : Below w.heap.size w W) (h4 : n ≤ 4096) (out : List Nat) (g i : Nat) (hi : i < n) (hT : W.rowIs g 4 n (tkF out)) => (show Calls Try.prog 28 #[.slice A n c, .slice (some ⟨g, 0, none⟩) n n, .int .i64 i] W (RetB W (freeB l out i)) from by
  have h1 := hn
  subst h1
  exact Rfirst_g l A c out g i (hl.below hb) h4 hi hT)
 have cc := Nat.le_trans hl.cap hl.max
 rw [hn] at cc ⊢
 replace hn := hid hn
 generalize sortE l = E at *
 clear hl hk
 go_enter Try.func13, Try.ntmps13
 go_wp2_with fail
 refine HK.out.mono ?_
 rintro e w0 ⟨rfl, HB⟩
 clear HK
 by_cases hk0 : k = 0
 ·replace E0 := hid (E0.out hk0)
  clear E1
  have h4 := H4.out hk0
  clear H4
  subst hk0
  have hmk := run_make_row' (P := Try.prog) 46 4 (.bool false) 1 Try.underlying46 infoBool rfl .i64 .i64 n (by omega) (by omega)
  have hrow := World.rowIs_made w0 (.bool false) n 4
  obtain ⟨R, hR⟩ : ∃ R, sortB l n [] = R := ⟨_, rfl⟩
  rw [show l.length = n from hn.out, hR] at E0
  have hb0 : Below w0.heap.size w0 (w0.alloc (.cells (madeCells #[.bool false] n) 4)) := (Below.refl _ _).alloc (Nat.le_refl _) _
  have hlt0 : w0.heap.size < (w0.alloc (.cells (madeCells #[.bool false] n) 4)).heap.size := by simp
  go_wp2
  go_loopw [6] (fun s6 wr => ∃ out : List Nat, OwnZ wr (w0.heap.size + 1) s6 out ∧ wr.rowIs w0.heap.size 4 n (tkF out) ∧ out.length ≤ n ∧ Hid (sortB l (n - out.length) out = R) ∧ Below w0.heap.size w0 wr) (fun s6 _ => n - lenZ s6)
  case atStart => exact ⟨[], OwnZ.nil _ _, hrow, by simp, hid (by simpa using hR), hb0⟩
  case round =>
   clear hrow hb0 hlt0 hR
   obtain ⟨out, hO, hT, hol, hR, hb⟩ := hrel
   obtain ⟨A6, c6, rfl⟩ := hO.form
   obtain ⟨m, hm⟩ : ∃ m, out.length = m := ⟨_, rfl⟩
   have hO2 := hid hO
   rw [hm] at hol hR ⊢
   by_cases hmn : m < n
   ·have hmi : (m : Int) < (n : Int) := by omega
    have hsb : IntKind.i64.wrap ((n : Int) - 1) = (n : Int) - 1 := by rw [IntKind.wrap_i64]; omega
    have hN0 := hid (NxR_0 l out)
    obtain ⟨w3, hw3⟩ : ∃ w3, w3 = wr := ⟨_, rfl⟩
    subst hw3
    have hb3 := Below.refl w3.heap.size w3
    replace hm := hid hm
    clear hO
    go_wp2
    go_loopw [7, 8] (fun s7 s8 wz => ∃ (x : Int) (i : Nat), s7 = .int .i64 x ∧ s8 = .int .i64 ((i : Int) - 1) ∧ i ≤ n ∧ Hid (NxR l out i x) ∧ Below w3.heap.size w3 wz) (fun _ s8 _ => (intOf s8 + 1).toNat)
    case atStart => exact ⟨-1, n, rfl, rfl, Nat.le_refl _, hn.out ▸ hN0, hb3⟩
    case round =>
     clear hN0 hb3
     obtain ⟨x, i, rfl, rfl, hi, hN, hb3⟩ := hrel
     rcases i with _ | i
     ·have hz : ((0 : Nat) : Int) - 1 = -1 := by omega
      rw [hz]
      have hbw := bel_step hb hb3
      rcases NxR_end hN.out with ⟨rfl, hnx⟩ | ⟨k, rfl, hk, hko, hnx⟩
      ·have hRn : R = none := by
        obtain ⟨d, hd⟩ : ∃ d, n - m = d + 1 := ⟨n - m - 1, by omega⟩
        have := hR.out
        rw [hd, sortB, hnx] at this
        exact this.symm
       subst hRn
       obtain rfl := E0.out
       have hB2 := bel_step HB hbw
       clear HF E0 hR hnx hO2 hT hb hb3 hbw hN hmk hm
       go_wp2
       refine bodyPost_ret (v := .tuple #[.slice none 0 0, .int .i64 31]) ?_ rfl ?_
       ·simp [results, Try.results13, go_sem]
       ·exact ⟨_, rfl, Zs.nil _, hB2⟩
      ·have hkn : k < n := by have := hn.out; omega
       have hkk : (k : Int) < (n : Int) := by omega
       have hk0 : ¬ (k : Int) < 0 := by omega
       have hTr := rowK hT hb3
       have hOr := hO2.out.below hb3
       have c0 := hTr.cell hkn
       have fz := hTr.frozen
       have ltg := hTr.lt
       have hr5 := (hTr.set k (.bool true)).congr (g := tkF (out ++ [k])) (fun j _ => tkF_step out k j)
       have hO5 := hOr.kept (w' := wr.setCell ⟨w0.heap.size, k, none⟩ (.bool true)) (fun b hb => blk_setCell_other _ _ _ _ (by have := (hOr.lt hb).1; dsimp only; omega))
       have hb5 := below_set hbw (Nat.le_refl _) k (.bool true)
       have hRd := hid (show (out ++ [k]).length = m + 1 ∧ sortB l (n - (m + 1)) (out ++ [k]) = R from by
        refine ⟨by have := hm.out; simp; omega, ?_⟩
        obtain ⟨d, hd⟩ : ∃ d, n - m = d + 1 := ⟨n - m - 1, by omega⟩
        have := hR.out
        rw [hd, sortB, hnx] at this
        dsimp only at this
        rw [show n - (m + 1) = d by omega]
        exact this)
       rw [hm.out] at hO5
       have hol6 : out.length ≤ 1000000 := by have := hm.out; omega
       clear hT hb hb3 hbw hN hTr hOr hO2 hR hnx HF E0
       obtain ⟨w5, hw5⟩ : ∃ w5, wr.setCell ⟨w0.heap.size, k, none⟩ (.bool true) = w5 := ⟨_, rfl⟩
       rw [hw5] at hr5 hO5 hb5
       have hsz5 : w0.heap.size + 1 ≤ w5.heap.size := by rw [← hw5]; simp; omega
       have hOa := hO5.below ((Below.refl _ _).alloc (Nat.le_refl _) (.cells #[.int .i64 (k : Int)] 3))
       go_upto_region 16 with fail
       clear hw5
       go_wp2_with (at_builtin; (refine wpList_app1 rfl (.tmp 46) (.tmp 48) rfl (w0.heap.size + 1) (.slice A6 m c6) out k w5.heap.size rfl hOa rfl (at_one rfl) hol6 (by simp; omega) ?_); intro s5 w6 hO6 hg6 hat6)
       have hr6 := (hr5.alloc (.cells #[.int .i64 (k : Int)] 3)).of_block (hg6.block _ (by simp; omega) (fun e => by have := (hOa.lt e.symm).1; omega))
       have hb6 := Below.grownZ (hb5.alloc (by omega) (.cells #[.int .i64 (k : Int)] 3)) hOa hg6 (by simp; omega) (by omega)
       obtain ⟨A7, c7, hv7⟩ := hO6.form
       rw [hRd.out.1] at hv7
       subst hv7
       replace hr6 := hid hr6
       replace hO6 := hid hO6
       replace hb6 := hid hb6
       clear hg6 hat6 hOa hO5 hr5 hb5
       go_roundw
       case rel => exact ⟨out ++ [k], hO6.out, hr6.out, by rw [hRd.out.1]; omega, by rw [hRd.out.1]; exact hid hRd.out.2, hb6.out⟩
       case measure => simp [lenZ]; omega
     ·have hz : ((i + 1 : Nat) : Int) - 1 = (i : Int) := by omega
      rw [hz]
      have hii : (i : Int) < (n : Int) := by omega
      have hge : (0 : Int) ≤ (i : Int) := by omega
      have hdc : IntKind.i64.wrap ((i : Int) - 1) = (i : Int) - 1 := by rw [IntKind.wrap_i64]; omega
      have hTr := rowK hT hb3
      have c0 := hTr.cell (i := i) (by omega)
      unfold tkF at c0
      have hFi := hid (HF.out wr (bel_step HB (bel_step hb hb3)) h4 out w0.heap.size i (by omega) hTr)
      have hy := hid fun (h : goodB l out i = true) => NxR_yes (l := l) (out := out) (m := i) (by have := hn.out; omega) h
      have hno := hid fun (h : goodB l out i = false) => NxR_no hN.out h
      obtain ⟨t, ht⟩ : ∃ t, out.contains i = t := ⟨_, rfl⟩
      obtain ⟨s, hs⟩ : ∃ s, freeB l out i = s := ⟨_, rfl⟩
      have hgd : goodB l out i = (!t && s) := by unfold goodB; rw [ht, hs]
      rw [ht] at c0
      rw [hs] at hFi
      rw [hgd] at hy hno
      clear hgd ht hs hTr hN
      cases t
      ·cases s
       ·have hN2 := hid (hno.out (by first | rfl | trivial))
        clear hy hno
        go_wp2_with fail
        refine hFi.out.mono ?_
        rintro e w5 ⟨rfl, hq5⟩
        have hb5 := bel_step hb3 hq5
        clear hFi hq5 hb3 c0
        go_wp2
        go_roundw
        case rel => exact ⟨x, i, rfl, rfl, by omega, hN2, hb5⟩
        case measure => simp [intOf]
       ·have hN2 := hid (hy.out (by first | rfl | trivial))
        clear hy hno
        go_wp2_with fail
        refine hFi.out.mono ?_
        rintro e w5 ⟨rfl, hq5⟩
        have hb5 := bel_step hb3 hq5
        clear hFi hq5 hb3 c0
        go_wp2
        go_roundw
        case rel => exact ⟨i, i, rfl, rfl, by omega, hN2, hb5⟩
        case measure => simp [intOf]
      ·have hN2 := hid (hno.out (by first | rfl | trivial))
       clear hy hno hFi
       go_wp2
       go_roundw
       case rel => exact ⟨x, i, rfl, rfl, by omega, hN2, hb3⟩
       case measure => simp [intOf]
   ·obtain rfl : m = n := by omega
    have hmi : ¬ (m : Int) < (m : Int) := by omega
    have hRo : R = some out := by
     have := hR.out
     rw [Nat.sub_self] at this
     exact this.symm
    subst hRo
    obtain rfl := E0.out
    have hB2 := bel_step HB hb
    have hZ := hid (hm ▸ hO.zs)
    clear HF E0 hR hO hT
    go_wp2
    refine bodyPost_ret (v := .tuple #[.slice A6 m c6, .int .i64 0]) ?_ rfl ?_
    ·simp [results, Try.results13, go_sem]
    ·exact ⟨_, rfl, hZ.out, hB2⟩
 ·obtain rfl := E1.out hk0
  clear E1 E0 HF H4
  go_wp2
  refine bodyPost_ret (v := .tuple #[.slice none 0 0, .int .i64 k]) ?_ rfl ?_
  ·simp [results, Try.results13, go_sem]
  ·exact ⟨_, rfl, Zs.nil _, HB⟩
end Go.Proofs.Ytjdgjhaggpahkaa
