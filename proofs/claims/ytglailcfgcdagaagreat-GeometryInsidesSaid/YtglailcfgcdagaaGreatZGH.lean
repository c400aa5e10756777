/- Geometry: the reference's before and hull. Conditions: at most 4096 points, coordinates in range. -/
import Derived.Test.YtglailcfgcdagaaGreatZGh3
import Derived.Test.YtglailcfgcdagaaGreatZGB
set_option linter.unusedVariables false
set_option linter.unusedSimpArgs false
namespace Go.Proofs.YtglailcfgcdagaaGreat
open Go.RowKit Big
def bfrP (a b : Int × Int) : Bool := decide (a.1 < b.1 ∨ (a.1 = b.1 ∧ a.2 < b.2))
set_option maxHeartbeats 1000000 in
theorem Rbefore_g (a b : Int × Int) (w : World) : Calls Tryz.prog 40 #[.agg #[.int .i64 a.1, .int .i64 a.2], .agg #[.int .i64 b.1, .int .i64 b.2]] w (RetB w (bfrP a b)) := by
 obtain ⟨t, ht⟩ : ∃ t, bfrP a b = t := ⟨_, rfl⟩
 obtain ⟨a0, a1⟩ := a
 obtain ⟨b0, b1⟩ := b
 have h1 := hid fun (h : a0 < b0 ∨ (a0 = b0 ∧ a1 < b1)) => (show t = true by rw [← ht]; exact decide_eq_true h)
 have h2 := hid fun (h : ¬(a0 < b0 ∨ (a0 = b0 ∧ a1 < b1))) => (show t = false by rw [← ht]; exact decide_eq_false h)
 rw [ht]
 clear ht
 dsimp only
 go_enter Tryz.func40, Tryz.ntmps40
 go_upto_region 1 with fail
 refine enterR2 (P := fun u => Code.wp _ _ _ _ u) (c0 := [.int .i64 a0, .int .i64 a1]) (c1 := [.int .i64 b0, .int .i64 b1]) ?_
 intro u HB r0 r1 zn0 zn1 hsz
 clear hsz zn0 zn1
 have ca0 : (u).cell? ⟨w.heap.size, 0, none⟩ = some (.int .i64 a0) := r0 0 _ rfl
 have ca1 : (u).cell? ⟨w.heap.size, 1, none⟩ = some (.int .i64 a1) := r0 1 _ rfl
 have cb0 : (u).cell? ⟨w.heap.size + 1, 0, none⟩ = some (.int .i64 b0) := r1 0 _ rfl
 have cb1 : (u).cell? ⟨w.heap.size + 1, 1, none⟩ = some (.int .i64 b1) := r1 1 _ rfl
 clear r0 r1
 by_cases g0 : a0 < b0
 ·obtain rfl := h1.out (Or.inl g0)
  clear h1 h2
  go_wp2
  go_ret
  exact ⟨rfl, HB⟩
 ·by_cases g1 : a0 = b0
  ·subst g1
   by_cases g2 : a1 < b1
   ·obtain rfl := h1.out (Or.inr ⟨rfl, g2⟩)
    clear h1 h2
    go_wp2
    go_ret
    exact ⟨rfl, HB⟩
   ·obtain rfl := h2.out (by omega)
    clear h1 h2
    go_wp2
    go_ret
    exact ⟨rfl, HB⟩
  ·obtain rfl := h2.out (by omega)
   have g3 : decide (a0 < b0) = false := decide_eq_false g0
   clear h1 h2
   go_wp2
   go_ret
   exact ⟨rfl, HB⟩
/-- the first point of j points -/
def fsP (l : List (Int × Int)) (j : Nat) : Int × Int := (l.take j).foldl fstS (l.headD (0, 0))
theorem fs_succ {l : List (Int × Int)} {j : Nat} (h : j < l.length) : fsP l (j + 1) = fstS (fsP l j) l[j] := by
 unfold fsP
 rw [List.take_succ_eq_append_getElem h, List.foldl_append]; rfl
theorem fs_all (l : List (Int × Int)) : fsP l l.length = fstP l := by unfold fsP fstP; rw [List.take_length]
theorem fs_first {l : List (Int × Int)} (h : 0 < l.length) : fsP l 0 = l[0] := by
 cases l with
 | nil => simp at h
 | cons a l => rfl
theorem fstS_b (f s : Int × Int) : fstS f s = if bfrP s f = true then s else f := by unfold fstS bfrP; simp only [decide_eq_true_eq]
theorem OwnP.one {w : World} {base : Nat} {x y : Int} (h : base ≤ w.heap.size) : OwnP (w.alloc (.cells #[.int .i64 x, .int .i64 y] 24)) base (.slice (some ⟨w.heap.size, 0, none⟩) 1 1) [(x, y)] :=
 ⟨rfl, .inr ⟨w.heap.size, 1, _, rfl, h, heap_alloc_new w _, by simp, by unfold maxLen; omega, rfl, rfl⟩⟩
theorem OwnP.last {w : World} {base : Nat} {v : Value} {r : List (Int × Int)} {b : Int × Int} (h : OwnP w base v (r ++ [b])) :
  ∃ g c, v = .slice (some ⟨g, 0, none⟩) (r.length + 1) c ∧ w.cell? ⟨g, r.length * 2, none⟩ = some (.int .i64 b.1) ∧ w.cell? ⟨g, r.length * 2 + 1, none⟩ = some (.int .i64 b.2) := by
 obtain ⟨A, c, hv, hb, hg⟩ := h.form
 obtain ⟨g, rfl, hgb⟩ := hg (by simp)
 have hl : (r ++ [b]).length = r.length + 1 := by simp
 rw [hl] at hv
 subst hv
 obtain ⟨b', o', e, hlt, hcs⟩ := hb.rd (by simp)
 cases e
 have k1 := hcs r.length (by simp)
 have e1 : (r ++ [b])[r.length]'(by simp) = b := by rw [List.getElem_append_right (by omega)]; simp
 rw [e1, Nat.zero_add] at k1
 exact ⟨g, c, rfl, k1.1, k1.2⟩
theorem nxt_in {l : List (Int × Int)} {p : Int × Int} (hp : inP p = true) (hin : ∀ s ∈ l, inP s = true) : inP (nxtP l p) = true := by
 have h : ∀ (m : List (Int × Int)) (b : Int × Int), (∀ s ∈ m, inP s = true) → inP b = true → inP (m.foldl (nxS p) b) = true := by
  intro m
  induction m with
  | nil => intro b _ hb; exact hb
  | cons a m ih => intro b hm hb; exact ih _ (fun s hs => hm s (List.mem_cons_of_mem _ hs)) (nxS_in hb (hm a (List.mem_cons_self ..)))
 exact h l p hin hp
theorem wrap_zero (l : List (Int × Int)) (f q : Int × Int) : wrapR l f 0 q = [q] := rfl
theorem wrap_succ {l : List (Int × Int)} {f q p : Int × Int} (h : nxtP l q = p) (m : Nat) : wrapR l f (m + 1) q = if p = f then [q] else q :: wrapR l f m p := by
 subst h; rfl
set_option maxRecDepth 100000 in
set_option maxHeartbeats 4000000 in
theorem Rhull_g (l : List (Int × Int)) (A : Option Addr) (c : Nat) {w : World} (hl : Pb w A c l) (hln : l.length ≤ 4096) (h0 : l ≠ []) (hin : ∀ p ∈ l, inP p = true) :
  Calls Tryz.prog 27 #[.slice A l.length c] w (RetR w (hullR l)) := by
 have hpos := List.length_pos_iff.2 h0
 obtain ⟨n, hn⟩ : ∃ n, l.length = n := ⟨_, rfl⟩
 have hM := hid fun (j : Nat) (hj : j < n) (W : World) (hb : Below w.heap.size w W) => (hl.below hb).at_ (k := j) (by omega)
 have hI := hid fun (j : Nat) (hj : j < l.length) => hin _ (List.getElem_mem hj)
 have hBf := hid fun (a b : Int × Int) (W : World) => Rbefore_g a b W
 have hNx := hid fun (q : Int × Int) (hq : inP q = true) (W : World) (hb : Below w.heap.size w W) => And.intro (Rnext_g l A c q (hl.below hb) hln hin hq) (nxt_in hq hin)
 have hE := hid (fs_all l)
 have hT := hid fun (j : Nat) (h : j < l.length) => fs_succ h
 have hF0 := hid (fs_first hpos)
 have hRR := hid (show hullR l = wrapR l (fstP l) (n + 1) (fstP l) by rw [← hn]; rfl)
 have hn4 : n ≤ 4096 := by omega
 have hn0 : 0 < n := by omega
 have hn0i : (0 : Int) < (n : Int) := by omega
 rw [hn] at hE hNx ⊢
 have hn := hid hn
 generalize hullR l = R at *
 generalize fsP l = st at *
 generalize fstP l = f at *
 clear hl hln h0
 obtain ⟨b, oo, hA, c0, c1⟩ := hM.out 0 hn0 w (Below.refl _ _)
 have hl0 := hid (And.intro (hI.out 0 hpos) hF0.out)
 clear hin
 generalize l[0] = p at *
 subst hA
 obtain ⟨x, y⟩ := p
 rw [Nat.zero_mul, Nat.add_zero] at c0 c1
 dsimp only at c0 c1
 clear hF0 hpos
 go_enter Tryz.func27, Tryz.ntmps27
 go_upto_region 2 with fail
 refine enterR (P := fun u => Code.wp _ _ _ _ u) (c := [.int .i64 x, .int .i64 y]) ?_
 intro u HB r0 z0 hsz
 have hS : BstB w w.heap.size (st 0) u := ⟨by rw [hl0.out.2]; exact r0 0 _ rfl, by rw [hl0.out.2]; exact r0 1 _ rfl, z0, HB, Nat.le_refl _⟩
 have hl1 := hid (And.intro (show inP (st 0) = true by rw [hl0.out.2]; exact hl0.out.1) trivial)
 clear hsz r0 z0 HB c0 c1 hl0
 go_wp2
 go_loopw [4] (fun s4 wr => ∃ (i : Nat) (q : Int × Int), s4 = .int .i64 i ∧ i ≤ n ∧ Hid (st i = q ∧ inP q = true) ∧ BstB w w.heap.size q wr) (fun s4 _ => n - (intOf s4).toNat)
 case atStart => exact ⟨0, st 0, rfl, by omega, ⟨rfl, hl1.out.1⟩, hS⟩
 case round =>
  clear hS hl1
  obtain ⟨i, q, rfl, hi, hq, hF⟩ := hrel
  by_cases hin : i < n
  ·have hii : (i : Int) < (n : Int) := by omega
   have hil : i < l.length := by have := hn.out; omega
   obtain ⟨b', o', hA, e0, e1⟩ := hM.out i hin wr hF.b
   cases hA
   have hsi := hI.out i hil
   have hTi := hT.out i hil
   rw [hq.out.1, fstS_b] at hTi
   generalize l[i] = s at *
   obtain ⟨t, ht⟩ : ∃ t, bfrP s q = t := ⟨_, rfl⟩
   rw [ht] at hTi
   have HCr := hid fun (W : World) => (show Calls Tryz.prog 40 #[.agg #[.int .i64 s.1, .int .i64 s.2], .agg #[.int .i64 q.1, .int .i64 q.2]] W (RetB W t) from by
    rw [← ht]; exact hBf.out _ _ W)
   have hN := hid (And.intro hTi (And.intro hsi hq.out.2))
   obtain ⟨x, y⟩ := s
   obtain ⟨q0, q1⟩ := q
   dsimp only at e0 e1
   clear hM hI hT hE hBf hTi hsi hq hNx hRR
   have d0 := hF.c0
   have d1 := hF.c1
   dsimp only at d0 d1
   go_wp2_with fail
   go_region_held3 (fun w' => (w'.cell? ⟨w.heap.size, 0, none⟩ = some (.int .i64 q0) ∧ w'.cell? ⟨w.heap.size, 1, none⟩ = some (.int .i64 q1)) ∧ (w'.cell? ⟨b, oo + i * 2, none⟩ = some (.int .i64 x) ∧ w'.cell? ⟨b, oo + i * 2 + 1, none⟩ = some (.int .i64 y))) (first | ((try dsimp only); repeat' (first | with_reducible assumption | apply And.intro | (with_reducible refine keep_alloc ?_) | (with_reducible refine keep_drew ?_) | (with_reducible refine keep_set (by omega) ?_) | (with_reducible refine keep_sets (by omega) ?_) | (with_reducible refine keep_cell (W := wr) ?_ ?_) | fail))) ((go_at_call 40; (with_reducible refine (HCr.out _).mono ?_); rintro e v2 ⟨rfl, hq_⟩; have qy5 : Below wr.heap.size wr v2 := bel_step BG hq_))
   all_goals
    replace hF := hF.below qy5
    have e0 := keep_cell qy5 e0
    have e1 := keep_cell qy5 e1
    have fz := hF.z.fr
    have ltg := hF.z.lt
    clear qy5 HCr d0 d1
    have d0 := hF.c0
    have d1 := hF.c1
    dsimp only at d0 d1
    cases t
    ·have hN2 := hid (show st (i + 1) = (q0, q1) ∧ inP (q0, q1) = true from ⟨hN.out.1, hN.out.2.2⟩)
     have hSF := hid hF
     clear hF hN
     go_wp2
     go_roundw
     case rel => exact ⟨i + 1, (q0, q1), by go_num, by omega, hN2, hSF.out⟩
     case measure => simp [intOf]; omega
    ·have hN2 := hid (show st (i + 1) = (x, y) ∧ inP (x, y) = true from ⟨hN.out.1, hN.out.2.1⟩)
     have hSF := hid (hF.set (x, y))
     clear hF hN
     go_wp2
     go_roundw
     case rel => exact ⟨i + 1, (x, y), by go_num, by omega, hN2, hSF.out⟩
     case measure => simp [intOf]; omega
  ·obtain rfl : i = n := by omega
   have hii : ¬ (i : Int) < (i : Int) := by omega
   have hqf : f = q := hE.out.symm.trans hq.out.1
   subst hqf
   have hfi := hid hq.out.2
   have hB := hF.b
   have hlt := hF.z.lt
   have d0 := hF.c0
   have d1 := hF.c1
   clear hM hI hT hE hBf hq
   have hS2 := hid hF
   clear hF
   obtain ⟨f0, f1⟩ := f
   dsimp only at d0 d1
   obtain ⟨w1, hw1⟩ : ∃ w1, w1 = wr := ⟨_, rfl⟩
   subst hw1
   have hO := OwnP.one (w := w1) (base := w1.heap.size) (x := f0) (y := f1) (Nat.le_refl _)
   have hv : Below w1.heap.size w1 (w1.alloc (.cells #[.int .i64 f0, .int .i64 f1] 24)) := (Below.refl _ _).alloc (Nat.le_refl _) _
   go_upto_region 8 with fail
   generalize w1.alloc (.cells #[.int .i64 f0, .int .i64 f1] 24) = v at *
   clear d0 d1
   go_wp2
   go_loopw [5, 6, 7] (fun s5 s6 s7 wr => ∃ (j : Nat) (o : List (Int × Int)) (q : Int × Int), s6 = .int .i64 j ∧ j ≤ i + 1 ∧ OwnP wr w1.heap.size s5 (o ++ [q]) ∧ Hid (R = o ++ wrapR l (f0, f1) (i + 1 - j) q) ∧ Hid (inP q = true) ∧ Hid (o.length = j) ∧ Below w1.heap.size w1 wr) (fun _ s6 _ _ => i + 1 - (intOf s6).toNat)
   case atStart => exact ⟨0, [], (f0, f1), rfl, by omega, hO, hRR, hfi, rfl, hv⟩
   case round =>
    clear hO hv hRR hfi
    obtain ⟨j, o, q, rfl, hj, hO, hR, hqi, hol, hB1⟩ := hrel
    by_cases hji : j ≤ i
    ·have hjj : (j : Int) ≤ (i : Int) := by omega
     obtain ⟨g, c5, rfl, k0, k1⟩ := hO.last
     obtain ⟨k, hk⟩ : ∃ k, o.length + 1 = k := ⟨_, rfl⟩
     rw [hol.out] at k0 k1 hk
     rw [hol.out, hk] at hO ⊢
     have hk1 : (k : Int) - 1 = (j : Int) := by omega
     have hw : IntKind.i64.wrap (j : Int) = (j : Int) := by rw [IntKind.wrap_i64]; omega
     have hjk : (j : Int) < (k : Int) := by omega
     have hlen : (o ++ [q]).length ≤ 1000000 := by rw [List.length_append, hol.out]; simp; omega
     obtain ⟨p, hp⟩ : ∃ p, nxtP l q = p := ⟨_, rfl⟩
     have hNx2 := hid fun (W : World) (hb : Below w.heap.size w W) => (show Calls Tryz.prog 41 #[.slice (some ⟨b, oo, none⟩) i c, .agg #[.int .i64 q.1, .int .i64 q.2]] W (RetPt W p) from by
      rw [← hp]; exact (hNx.out q hqi.out W hb).1)
     have hpi := hid (show inP p = true by rw [← hp]; exact (hNx.out q hqi.out w (Below.refl _ _)).2)
     have hws := hid (wrap_succ (f := (f0, f1)) hp (i - j))
     have hR1 := hid fun (h : p = (f0, f1)) => (show R = o ++ [q] by rw [hR.out, show i + 1 - j = i - j + 1 by omega, hws.out, if_pos h])
     have hR3 := hid fun (h : ¬ p = (f0, f1)) => (show R = (o ++ [q]) ++ wrapR l (f0, f1) (i + 1 - (j + 1)) p by rw [hR.out, show i + 1 - j = i - j + 1 by omega, hws.out, if_neg h, show i + 1 - (j + 1) = i - j by omega]; simp)
     have hBw := hB.trans (hB1.mono hB.size)
     obtain ⟨q0, q1⟩ := q
     obtain ⟨p0, p1⟩ := p
     dsimp only at k0 k1 hNx2
     clear hp hws hR hk hNx hqi
     go_wp2_with fail
     refine (hNx2.out _ hBw).mono ?_
     rintro e v2 ⟨rfl, h2⟩
     dsimp only
     go_upto_region 12 with fail
     refine enterR (P := fun u => Code.wp _ _ _ _ u) (c := [.int .i64 p0, .int .i64 p1]) ?_
     intro v3 hv r4 zn4 hsz
     have e0 : v3.cell? ⟨v2.heap.size, 0, none⟩ = some (.int .i64 p0) := r4 0 _ rfl
     have e1 : v3.cell? ⟨v2.heap.size, 1, none⟩ = some (.int .i64 p1) := r4 1 _ rfl
     have hB3 := bel_step (bel_step hB1 h2) hv
     have hS3 := hS2.out.below hB3
     have d0 := hS3.c0
     have d1 := hS3.c1
     dsimp only at d0 d1
     clear r4 zn4 hsz hS3 hNx2 hBw hB1
     by_cases g0 : p0 = f0
     ·subst g0
      by_cases g1 : p1 = f1
      ·subst g1
       have hR4 := hid (hR1.out rfl)
       have hO4 := hid (((hO.below h2).below hv).older hB.size)
       have hB4 := hid (hB.trans (hB3.mono hB.size))
       clear hR1 hR3 hO hB3 h2 hv k0 k1
       go_wp2
       go_ret
       exact ⟨_, rfl, by rw [hR4.out]; exact hO4.out, hB4.out⟩
      ·have hR2 := hid (hR3.out (fun h => g1 (by injection h)))
       clear hR1 hR3
       have hO4 := hO.below (Below.trans (b := v2) h2 (hv.mono h2.size))
       have hwr2 := hB3.size
       have hOA := hO4.below ((Below.refl _ _).alloc (Nat.le_refl _) (.cells #[.int .i64 p0, .int .i64 p1] 24))
       have hBA := hB3.alloc hwr2 (.cells #[.int .i64 p0, .int .i64 p1] 24)
       clear hO hO4 hB3 h2 hv k0 k1
       go_upto_region 10 with (at_builtin; refine wpList_appP rfl (.tmp 47) (.tmp 49) rfl w1.heap.size _ _ (p0, p1) v3.heap.size rfl hOA rfl (at_alloc0 rfl) (at_alloc1 rfl) hlen (by simp; omega) ?_; intro s6 w6 hown6 hgr)
       have hB6 := Below.grown hBA hgr (by simp; omega) (fun b e => (World.ownsRow.lt hOA b e).1)
       clear hOA hBA hgr d0 d1 e0 e1
       go_wp2
       go_roundw
       case rel => exact ⟨j + 1, o ++ [(q0, q1)], (p0, p1), by go_num, by omega, hown6, hR2, hpi, hid (by simp [hol.out]), hB6⟩
       case measure => simp [intOf]; omega
     ·have hR2 := hid (hR3.out (fun h => g0 (by injection h)))
      clear hR1 hR3
      have hO4 := hO.below (Below.trans (b := v2) h2 (hv.mono h2.size))
      have hwr2 := hB3.size
      have hOA := hO4.below ((Below.refl _ _).alloc (Nat.le_refl _) (.cells #[.int .i64 p0, .int .i64 p1] 24))
      have hBA := hB3.alloc hwr2 (.cells #[.int .i64 p0, .int .i64 p1] 24)
      clear hO hO4 hB3 h2 hv k0 k1
      go_upto_region 10 with (at_builtin; refine wpList_appP rfl (.tmp 47) (.tmp 49) rfl w1.heap.size _ _ (p0, p1) v3.heap.size rfl hOA rfl (at_alloc0 rfl) (at_alloc1 rfl) hlen (by simp; omega) ?_; intro s6 w6 hown6 hgr)
      have hB6 := Below.grown hBA hgr (by simp; omega) (fun b e => (World.ownsRow.lt hOA b e).1)
      clear hOA hBA hgr d0 d1 e0 e1
      go_wp2
      go_roundw
      case rel => exact ⟨j + 1, o ++ [(q0, q1)], (p0, p1), by go_num, by omega, hown6, hR2, hpi, hid (by simp [hol.out]), hB6⟩
      case measure => simp [intOf]; omega
    ·obtain rfl : j = i + 1 := by omega
     have hjj : ¬ ((i + 1 : Nat) : Int) ≤ (i : Int) := by omega
     have hR4 := hid (show R = o ++ [q] by rw [hR.out, Nat.sub_self, wrap_zero])
     have hO4 := hid (hO.older hB.size)
     have hB4 := hid (hB.trans (hB1.mono hB.size))
     clear hO hB1 hNx hR
     go_wp2
     go_ret
     exact ⟨_, rfl, by rw [hR4.out]; exact hO4.out, hB4.out⟩
end Go.Proofs.YtglailcfgcdagaaGreat
/- Geometry: Hull in the package and in the reference, and the reference's Points. Conditions: none. -/
namespace Go.Proofs.YtglailcfgcdagaaGreat
open Go.RowKit Big
theorem hullE_0 {l : List (Int × Int)} (h : chkP l = 0) (h0 : l = []) : hullE l = ([], 5) := by unfold hullE; rw [if_pos h, h0]; rfl
theorem hullE_1 {l : List (Int × Int)} (h : chkP l = 0) (h0 : l ≠ []) : hullE l = (hullP l, 0) := by unfold hullE; rw [if_pos h, if_neg (fun e => h0 (List.eq_nil_of_length_eq_zero e))]
theorem hullE_2 {l : List (Int × Int)} (h : chkP l ≠ 0) : hullE l = ([], chkP l) := by unfold hullE; rw [if_neg h]
set_option maxRecDepth 100000 in
set_option maxHeartbeats 2000000 in
theorem GHull_g (l : List (Int × Int)) (A : Option Addr) (c : Nat) {w : World} (hl : Pb w A c l) :
  Calls Tryz.prog 9 #[.slice A l.length c] w (RetRE w (hullE l)) := by
 obtain ⟨n, hn⟩ : ∃ n, l.length = n := ⟨_, rfl⟩
 obtain ⟨k, hk⟩ : ∃ k, chkP l = k := ⟨_, rfl⟩
 have HK := hid (show Calls Tryz.prog 18 #[.slice A n c] w (RetI w k) from by rw [← hk, ← hn]; exact Gcheck_g l A c hl)
 have H2 := hid fun (h : k ≠ 0) => (show hullE l = ([], k) by rw [← hk] at h ⊢; exact hullE_2 h)
 have H0 := hid fun (h : k = 0) (h0 : n = 0) => (show hullE l = ([], 5) from hullE_0 (hk.trans h) (List.eq_nil_of_length_eq_zero (hn.trans h0)))
 have H1 := hid fun (h : k = 0) (h0 : n ≠ 0) => (show ∃ L, hullE l = (L, 0) ∧ ∀ W : World, Below w.heap.size w W → Calls Tryz.prog 19 #[.slice A n c] W (RetR W L) from by
  have h1 := chkP_zero (hk.trans h)
  have h2 : l ≠ [] := fun e => h0 (by rw [← hn, e]; rfl)
  exact ⟨_, hullE_1 (hk.trans h) h2, fun W hb => by rw [show hullP l = hullP l from rfl, ← hn]; exact Ghull_g l A c (hl.below hb) h1.1 h2 h1.2⟩)
 have hcp := Nat.le_trans hl.cap hl.max
 rw [hn] at hcp ⊢
 generalize hullE l = E at *
 clear hl hn hk
 go_enter Tryz.func9, Tryz.ntmps9
 go_wp2_with fail
 refine HK.out.mono ?_
 rintro e w1 ⟨rfl, hb⟩
 by_cases hk0 : k = 0
 ·by_cases hn0 : n = 0
  ·obtain rfl := H0.out hk0 hn0
   subst hk0 hn0
   clear H0 H1 H2 HK
   go_wp2
   refine bodyPost_ret (v := .tuple #[.slice none 0 0, .int .i64 5]) ?_ rfl ?_
   ·simp [results, Tryz.results9, go_sem]
   ·exact ⟨_, rfl, OwnP.nil _ _, hb⟩
  ·obtain ⟨L, rfl, HL⟩ := H1.out hk0 hn0
   have hnn : ¬ (n : Int) = 0 := by omega
   subst hk0
   replace HL := hid (HL w1 hb)
   clear H0 H1 H2 HK
   go_wp2_with fail
   refine HL.out.mono ?_
   rintro e w2 ⟨v2, rfl, hO, hb2⟩
   have hfin := hid (And.intro (OwnP.older hb.size hO) (hb.trans (hb2.mono hb.size)))
   clear hO hb2 HL
   go_wp2
   refine bodyPost_ret (v := .tuple #[v2, .int .i64 0]) ?_ rfl ?_
   ·simp [results, Tryz.results9, go_sem]
   ·exact ⟨_, rfl, hfin.out⟩
 ·obtain rfl := H2.out hk0
  clear H0 H1 H2 HK
  go_wp2
  refine bodyPost_ret (v := .tuple #[.slice none 0 0, .int .i64 k]) ?_ rfl ?_
  ·simp [results, Tryz.results9, go_sem]
  ·exact ⟨_, rfl, OwnP.nil _ _, hb⟩
set_option maxRecDepth 100000 in
set_option maxHeartbeats 2000000 in
theorem RHull_g (l : List (Int × Int)) (A : Option Addr) (c : Nat) {w : World} (hl : Pb w A c l) :
  Calls Tryz.prog 7 #[.slice A l.length c] w (RetRE w (hullE l)) := by
 obtain ⟨n, hn⟩ : ∃ n, l.length = n := ⟨_, rfl⟩
 obtain ⟨k, hk⟩ : ∃ k, chkP l = k := ⟨_, rfl⟩
 have HK := hid (show Calls Tryz.prog 24 #[.slice A n c] w (RetI w k) from by rw [← hk, ← hn]; exact Rright_g l A c hl)
 have H2 := hid fun (h : k ≠ 0) => (show hullE l = ([], k) by rw [← hk] at h ⊢; exact hullE_2 h)
 have H0 := hid fun (h : k = 0) (h0 : n = 0) => (show hullE l = ([], 5) from hullE_0 (hk.trans h) (List.eq_nil_of_length_eq_zero (hn.trans h0)))
 have H1 := hid fun (h : k = 0) (h0 : n ≠ 0) => (show ∃ L, hullE l = (L, 0) ∧ ∀ W : World, Below w.heap.size w W → Calls Tryz.prog 27 #[.slice A n c] W (RetR W L) from by
  have h1 := chkP_zero (hk.trans h)
  have h2 : l ≠ [] := fun e => h0 (by rw [← hn, e]; rfl)
  exact ⟨_, hullE_1 (hk.trans h) h2, fun W hb => by rw [hullP_eq h2, ← hn]; exact Rhull_g l A c (hl.below hb) h1.1 h2 h1.2⟩)
 have hcp := Nat.le_trans hl.cap hl.max
 rw [hn] at hcp ⊢
 generalize hullE l = E at *
 clear hl hn hk
 go_enter Tryz.func7, Tryz.ntmps7
 go_wp2_with fail
 refine HK.out.mono ?_
 rintro e w1 ⟨rfl, hb⟩
 by_cases hk0 : k = 0
 ·by_cases hn0 : n = 0
  ·obtain rfl := H0.out hk0 hn0
   subst hk0 hn0
   clear H0 H1 H2 HK
   go_wp2
   refine bodyPost_ret (v := .tuple #[.slice none 0 0, .int .i64 5]) ?_ rfl ?_
   ·simp [results, Tryz.results7, go_sem]
   ·exact ⟨_, rfl, OwnP.nil _ _, hb⟩
  ·obtain ⟨L, rfl, HL⟩ := H1.out hk0 hn0
   have hnn : ¬ (n : Int) = 0 := by omega
   subst hk0
   replace HL := hid (HL w1 hb)
   clear H0 H1 H2 HK
   go_wp2_with fail
   refine HL.out.mono ?_
   rintro e w2 ⟨v2, rfl, hO, hb2⟩
   have hfin := hid (And.intro (OwnP.older hb.size hO) (hb.trans (hb2.mono hb.size)))
   clear hO hb2 HL
   go_wp2
   refine bodyPost_ret (v := .tuple #[v2, .int .i64 0]) ?_ rfl ?_
   ·simp [results, Tryz.results7, go_sem]
   ·exact ⟨_, rfl, hfin.out⟩
 ·obtain rfl := H2.out hk0
  clear H0 H1 H2 HK
  go_wp2
  refine bodyPost_ret (v := .tuple #[.slice none 0 0, .int .i64 k]) ?_ rfl ?_
  ·simp [results, Tryz.results7, go_sem]
  ·exact ⟨_, rfl, OwnP.nil _ _, hb⟩
set_option maxRecDepth 100000 in
set_option maxHeartbeats 2000000 in
theorem RPoints_g (l m : List (Int × Int)) (A B : Option Addr) (c d : Nat) {w : World} (hl : Pb w A c l) (hm : Pb w B d m) :
  Calls Tryz.prog 16 #[.slice A l.length c, .slice B m.length d] w (RetB w (decide (l = m))) := by
 obtain ⟨t, ht⟩ : ∃ t, decide (l = m) = t := ⟨_, rfl⟩
 rw [ht]
 obtain ⟨n, hn⟩ : ∃ n, l.length = n := ⟨_, rfl⟩
 obtain ⟨k, hk⟩ : ∃ k, m.length = k := ⟨_, rfl⟩
 have hM := hid fun (j : Nat) (hj : j < n) (W : World) (hb : Below w.heap.size w W) => (hl.below hb).at_ (k := j) (by omega)
 have hK := hid fun (j : Nat) (hj : j < k) (W : World) (hb : Below w.heap.size w W) => (hm.below hb).at_ (k := j) (by omega)
 have c1 := Nat.le_trans hl.cap hl.max
 have c2 := Nat.le_trans hm.cap hm.max
 rw [hn] at c1 ⊢
 rw [hk] at c2 ⊢
 have hF := hid fun (j : Nat) (h1 : j < l.length) (h2 : j < m.length) (h : ¬ l[j] = m[j]) => (show t = false by
  rw [← ht, decide_eq_false]; intro e; subst e; exact h rfl)
 have hE := hid fun (h : n ≠ k) => (show t = false by rw [← ht, decide_eq_false]; intro e; exact h (by rw [← hn, ← hk, e]))
 have hT := hid fun (h : ∀ j (h1 : j < l.length) (h2 : j < m.length), l[j] = m[j]) (hnk : n = k) => (show t = true by
  rw [← ht, decide_eq_true]; exact List.ext_getElem (by omega) h)
 replace hn := hid hn
 replace hk := hid hk
 clear hl hm ht
 go_enter Tryz.func16, Tryz.ntmps16
 by_cases hnk : n = k
 ·have hnki : (n : Int) = (k : Int) := by omega
  subst hnk
  clear hE
  go_wp2
  go_loopw [5] (fun s5 wr => ∃ i : Nat, s5 = .int .i64 i ∧ i ≤ n ∧ Hid (∀ j (h1 : j < l.length) (h2 : j < m.length), j < i → l[j] = m[j]) ∧ Below w.heap.size w wr) (fun s5 _ => n - (intOf s5).toNat)
  case atStart => exact ⟨0, rfl, by omega, fun j _ _ h => by omega, Below.refl _ _⟩
  case round =>
   obtain ⟨i, rfl, hi, hA, hB⟩ := hrel
   by_cases hin : i < n
   ·have hii : (i : Int) < (n : Int) := by omega
    have hil : i < l.length := by have := hn.out; omega
    have hik : i < m.length := by have := hk.out; omega
    obtain ⟨b, o, hA1, e0, e1⟩ := hM.out i hin wr hB
    obtain ⟨b', o', hA2, g0, g1⟩ := hK.out i hin wr hB
    have hFi := hid (hF.out i hil hik)
    have hAi := hid fun (h : l[i] = m[i]) (j : Nat) (h1 : j < l.length) (h2 : j < m.length) (hji : j < i + 1) => (show l[j] = m[j] by
     by_cases e : j = i
     ·subst e; exact h
     ·exact hA.out j h1 h2 (by omega))
    generalize l[i] = p at *
    generalize m[i] = q at *
    obtain ⟨p0, p1⟩ := p
    obtain ⟨q0, q1⟩ := q
    dsimp only at e0 e1 g0 g1
    subst hA1 hA2
    clear hM hK hF hT hA hn hk
    by_cases z0 : p0 = q0
    ·subst z0
     by_cases z1 : p1 = q1
     ·subst z1
      have hA3 := hid (hAi.out rfl)
      clear hAi hFi
      go_wp2_with fail
      go_quiet (fail)
      have hv : Below wr.heap.size wr (wr.drewN nq) := below_drewN (Below.refl _ _) _
      generalize hvq : wr.drewN nq = v3 at hv ⊢
      clear hvq
      have hBv := bel_step hB hv
      clear hv hB e0 e1 g0 g1
      go_wp2
      go_roundw
      case rel => exact ⟨i + 1, by go_num, by omega, hA3, hBv⟩
      case measure => simp [intOf]; omega
     ·obtain rfl := hFi.out (fun h => z1 (by injection h))
      clear hAi hFi
      go_wp2_with fail
      go_quiet (fail)
      have hv : Below wr.heap.size wr (wr.drewN nq) := below_drewN (Below.refl _ _) _
      generalize hvq : wr.drewN nq = v3 at hv ⊢
      clear hvq
      have hBv := bel_step hB hv
      clear hv hB e0 e1 g0 g1
      go_wp2
      go_ret
      exact ⟨rfl, hBv⟩
    ·obtain rfl := hFi.out (fun h => z0 (by injection h))
     clear hAi hFi
     go_wp2_with fail
     go_quiet (fail)
     have hv : Below wr.heap.size wr (wr.drewN nq) := below_drewN (Below.refl _ _) _
     generalize hvq : wr.drewN nq = v3 at hv ⊢
     clear hvq
     have hBv := bel_step hB hv
     clear hv hB e0 e1 g0 g1
     go_wp2
     go_ret
     exact ⟨rfl, hBv⟩
   ·obtain rfl : i = n := by omega
    obtain rfl := hT.out (fun j h1 h2 => hA.out j h1 h2 (by have := hn.out; omega)) (by first | rfl | trivial)
    have hii : ¬ (i : Int) < (i : Int) := by omega
    clear hM hK hF hT hA hn hk
    go_wp2
    go_ret
    exact ⟨rfl, hB⟩
 ·have hnki : ¬ (n : Int) = (k : Int) := by omega
  obtain rfl := hE.out hnk
  clear hM hK hF hE hT
  go_wp2
  go_ret
  exact ⟨rfl, Below.refl _ _⟩
end Go.Proofs.YtglailcfgcdagaaGreat
/- Geometry: Area2 in the package and in the reference. Conditions: none. -/
namespace Go.Proofs.YtglailcfgcdagaaGreat
open Go.RowKit Big
def arT (l : List (Int × Int)) (i : Nat) : Int := (l.getD i (0, 0)).1 * (l.getD ((i + 1) % l.length) (0, 0)).2 - (l.getD ((i + 1) % l.length) (0, 0)).1 * (l.getD i (0, 0)).2
def arP (l : List (Int × Int)) (j : Nat) : Int := ((List.range j).map (arT l)).sum
theorem arP_succ (l : List (Int × Int)) (j : Nat) : arP l (j + 1) = arP l j + arT l j := by
 unfold arP; rw [List.range_succ, List.map_append, List.sum_append]; simp
theorem ar_at {l : List (Int × Int)} {i k : Nat} (h : i < l.length) (hk : (i + 1) % l.length = k) (h2 : k < l.length) : arT l i = l[i].1 * l[k].2 - l[k].1 * l[i].2 := by
 unfold arT
 rw [hk]
 simp [h, h2]
/-- the numbers of one step -/
theorem ar_step {p q : Int × Int} {s : Int} {j : Nat} (hp : inP p = true) (hq : inP q = true) (hj : j < 4096) (hs : -(562949953421312 * (j : Int)) ≤ s ∧ s ≤ 562949953421312 * (j : Int)) :
  ∃ y1 y2 z s1 t : Int, p.1 * q.2 = y1 ∧ q.1 * p.2 = y2 ∧ y1 - y2 = z ∧ s + z = s1 ∧ s + y1 = t ∧ t - y2 = s1 ∧ s + (p.1 * q.2 - q.1 * p.2) = s1 ∧
   IntKind.i64.wrap y1 = y1 ∧ IntKind.i64.wrap y2 = y2 ∧ IntKind.i64.wrap z = z ∧ IntKind.i64.wrap s1 = s1 ∧ IntKind.i64.wrap t = t ∧
   (-(562949953421312 * ((j + 1 : Nat) : Int)) ≤ s1 ∧ s1 ≤ 562949953421312 * ((j + 1 : Nat) : Int)) := by
 have h1 := inP_iff.1 hp
 have h2 := inP_iff.1 hq
 have m1 := mul_box (k := 16777216) (l := 16777216) (show -16777216 ≤ p.1 ∧ p.1 ≤ 16777216 by omega) (show -16777216 ≤ q.2 ∧ q.2 ≤ 16777216 by omega)
 have m2 := mul_box (k := 16777216) (l := 16777216) (show -16777216 ≤ q.1 ∧ q.1 ≤ 16777216 by omega) (show -16777216 ≤ p.2 ∧ p.2 ≤ 16777216 by omega)
 refine ⟨_, _, _, _, _, rfl, rfl, rfl, rfl, rfl, ?_, rfl, ?_⟩
 ·omega
 ·generalize p.1 * q.2 = y1 at *
  generalize q.1 * p.2 = y2 at *
  simp only [IntKind.wrap_i64]
  omega
set_option maxRecDepth 100000 in
set_option maxHeartbeats 2000000 in
theorem GArea2_g (l : List (Int × Int)) (A : Option Addr) (c : Nat) {w : World} (hl : Pb w A c l) :
  Calls Tryz.prog 10 #[.slice A l.length c] w (RetII w (areaE l)) := by
 obtain ⟨n, hn⟩ : ∃ n, l.length = n := ⟨_, rfl⟩
 obtain ⟨k, hk⟩ : ∃ k, chkP l = k := ⟨_, rfl⟩
 have HK := hid (show Calls Tryz.prog 18 #[.slice A n c] w (RetI w k) from by rw [← hk, ← hn]; exact Gcheck_g l A c hl)
 have H2 := hid fun (h : k ≠ 0) => (show areaE l = (0, k) by rw [← hk] at h ⊢; unfold areaE; rw [if_neg h])
 have H0 := hid fun (h : k = 0) => (show areaE l = (arP l n, 0) by unfold areaE; rw [if_pos (hk.trans h), ← hn]; rfl)
 have H1 := hid fun (h : k = 0) => chkP_zero (hk.trans h)
 have hM := hid fun (j : Nat) (hj : j < n) (W : World) (hb : Below w.heap.size w W) => (hl.below hb).at_ (k := j) (by omega)
 have hS := hid fun (j : Nat) => arP_succ l j
 have hS0 := hid (show arP l 0 = 0 from rfl)
 have hT := hid fun (i k : Nat) (h : i < l.length) (hk : (i + 1) % l.length = k) (h2 : k < l.length) => ar_at h hk h2
 have hcp := Nat.le_trans hl.cap hl.max
 rw [hn] at hcp ⊢
 generalize areaE l = E at *
 generalize arP l = st at *
 replace hn := hid hn
 clear hl hk
 go_enter Tryz.func10, Tryz.ntmps10
 go_wp2_with fail
 refine HK.out.mono ?_
 rintro e w1 ⟨rfl, hb⟩
 by_cases hk0 : k = 0
 ·obtain rfl := H0.out hk0
  have hin := hid (H1.out hk0)
  have hn4 : n ≤ 4096 := by have := hin.out.1; rw [hn.out] at this; exact this
  subst hk0
  clear H0 H1 H2 HK
  go_wp2
  go_loopw [16, 5] (fun s16 s5 wr => ∃ (i : Nat) (s : Int), s16 = .int .i64 i ∧ s5 = .int .i64 s ∧ i ≤ n ∧ Hid (st i = s ∧ -(562949953421312 * (i : Int)) ≤ s ∧ s ≤ 562949953421312 * (i : Int)) ∧ Below w.heap.size w wr) (fun s16 _ _ => n - (intOf s16).toNat)
  case atStart => exact ⟨0, 0, rfl, rfl, by omega, ⟨hS0.out, by omega, by omega⟩, hb⟩
  case round =>
   obtain ⟨i, s, rfl, rfl, hi, hst, hB⟩ := hrel
   by_cases hin2 : i < n
   ·skip
    have hii : (i : Int) < (n : Int) := by omega
    have hil : i < l.length := by have := hn.out; omega
    obtain ⟨k, hk⟩ : ∃ k, (i + 1) % n = k := ⟨_, rfl⟩
    have hkn : k < n := by rw [← hk]; exact Nat.mod_lt _ (by omega)
    have hkl : k < l.length := by have := hn.out; omega
    have hkm : Int.tmod ((i : Int) + 1) (n : Int) = (k : Int) := by rw [← hk]; rw [Int.tmod_eq_emod_of_nonneg (by omega)]; push_cast; rfl
    have hkw : IntKind.i64.wrap (k : Int) = (k : Int) := by rw [IntKind.wrap_i64]; omega
    have hki : (k : Int) < (n : Int) := by omega
    have hnz : ¬ (n : Int) = 0 := by omega
    have hiw : IntKind.i64.wrap ((i : Int) + 1) = (i : Int) + 1 := by rw [IntKind.wrap_i64]; omega
    obtain ⟨b, o, hA1, e0, e1⟩ := hM.out i hin2 wr hB
    obtain ⟨b', o', hA2, g0, g1⟩ := hM.out k hkn wr hB
    subst hA1
    cases hA2
    have hTi := hT.out i k hil (by rw [hn.out]; exact hk) hkl
    have hpi := hin.out.2 _ (List.getElem_mem hil)
    have hqi := hin.out.2 _ (List.getElem_mem hkl)
    have hSi := hS.out i
    rw [hst.out.1, hTi] at hSi
    generalize l[i] = p at *
    generalize l[k] = q at *
    obtain ⟨y1, y2, z, s1, t, a1, a2, a3, a4, a5, a6, a7, w1', w2', w3, w4, w5, hbd⟩ := ar_step hpi hqi (show i < 4096 by omega) hst.out.2
    rw [a7] at hSi
    have hst2 := hid (And.intro hSi hbd)
    obtain ⟨p0, p1⟩ := p
    obtain ⟨q0, q1⟩ := q
    dsimp only at e0 e1 g0 g1 a1 a2
    clear hpi hqi hSi hTi a7 hbd hM hS hS0 hT hin hn hst hk
    clear a5 a6 w5
    go_upto_region 8 with fail
    refine enterR (P := fun u => Code.wp _ _ _ _ u) (c := [.int .i64 p0, .int .i64 p1]) ?_
    intro v2 hv r4 zn4 hsz
    have d0 : v2.cell? ⟨wr.heap.size, 0, none⟩ = some (.int .i64 p0) := r4 0 _ rfl
    have d1 : v2.cell? ⟨wr.heap.size, 1, none⟩ = some (.int .i64 p1) := r4 1 _ rfl
    have g0 := keep_cell hv g0
    have g1 := keep_cell hv g1
    replace hB := bel_step hB hv
    clear r4 zn4 hsz hv e0 e1
    go_upto_region 9 with fail
    refine enterR (P := fun u => Code.wp _ _ _ _ u) (c := [.int .i64 q0, .int .i64 q1]) ?_
    intro v3 hv r4 zn4 hsz
    have f0 : v3.cell? ⟨v2.heap.size, 0, none⟩ = some (.int .i64 q0) := r4 0 _ rfl
    have f1 : v3.cell? ⟨v2.heap.size, 1, none⟩ = some (.int .i64 q1) := r4 1 _ rfl
    have d0 := keep_cell hv d0
    have d1 := keep_cell hv d1
    replace hB := bel_step hB hv
    clear r4 zn4 hsz hv g0 g1
    go_wp2
    go_roundw
    case rel => exact ⟨i + 1, s1, by go_num, rfl, by omega, hst2.out, hB⟩
    case measure => simp [intOf]; omega
   ·skip
    obtain rfl : i = n := by omega
    have hii : ¬ (i : Int) < (i : Int) := by omega
    have hR := hid hst.out.1
    clear hst hM hS hS0 hT hin hn
    go_wp2
    refine bodyPost_ret (v := .tuple #[.int .i64 s, .int .i64 0]) ?_ rfl ?_
    ·simp [results, Tryz.results10, go_sem]
    ·exact ⟨by rw [hR.out], hB⟩
 ·obtain rfl := H2.out hk0
  clear H0 H1 H2 HK hM hS hS0 hT hn
  go_wp2
  refine bodyPost_ret (v := .tuple #[.int .i64 0, .int .i64 k]) ?_ rfl ?_
  ·simp [results, Tryz.results10, go_sem]
  ·exact ⟨rfl, hb⟩
end Go.Proofs.YtglailcfgcdagaaGreat
