/- Geometry: half. Conditions: at most 4096 points, coordinates in range. -/
import Derived.Test.YtglailcfgcdagaaGreatZGF
import Derived.Test.YtglailcfgcdagaaGreatZGA
set_option linter.unusedVariables false
set_option linter.unusedSimpArgs false
namespace Go.Proofs.YtglailcfgcdagaaGreat
open Go.RowKit Big
theorem OwnP.form {w : World} {base : Nat} {v : Value} {l : List (Int × Int)} (h : OwnP w base v l) : ∃ A c, v = .slice A l.length c ∧ Pb w A c l ∧ (0 < l.length → ∃ g, A = some ⟨g, 0, none⟩ ∧ base ≤ g) := by
 rcases h.2 with ⟨rfl, h0⟩ | ⟨g, cap, cur, rfl, hbg, hg, hnc, hmx, hcs, htake⟩
 ·have : l = [] := List.eq_nil_of_length_eq_zero h0
  subst this
  exact ⟨none, 0, rfl, Pb.nil w, fun h => by simp at h⟩
 ·refine ⟨_, cap, rfl, ⟨hnc, by unfold maxLen at hmx; omega, fun h0 => ⟨g, 0, rfl, (Array.getElem?_eq_some_iff.1 hg).1, fun j hj => ?_⟩⟩, fun _ => ⟨g, rfl, hbg⟩⟩
  obtain ⟨h1, h2⟩ := cellsP_get l j hj
  rw [← htake] at h1 h2
  rw [List.getElem?_take, if_pos (by omega)] at h1 h2
  rw [Nat.zero_add]
  refine ⟨?_, ?_⟩
  ·rw [cell_of_row w g _ cur _ _ hg]; simpa using h1
  ·rw [cell_of_row w g _ cur _ _ hg]; simpa using h2
theorem OwnP.two {w : World} {base : Nat} {v : Value} {r : List (Int × Int)} {a b : Int × Int} (h : OwnP w base v (r ++ [a] ++ [b])) :
  ∃ g c, v = .slice (some ⟨g, 0, none⟩) (r.length + 2) c ∧ base ≤ g ∧ r.length + 2 ≤ c ∧ c ≤ 9223372036854775807 ∧
   w.cell? ⟨g, r.length * 2, none⟩ = some (.int .i64 a.1) ∧ w.cell? ⟨g, r.length * 2 + 1, none⟩ = some (.int .i64 a.2) ∧
   w.cell? ⟨g, (r.length + 1) * 2, none⟩ = some (.int .i64 b.1) ∧ w.cell? ⟨g, (r.length + 1) * 2 + 1, none⟩ = some (.int .i64 b.2) ∧
   OwnP w base (.slice (some ⟨g, 0, none⟩) (r.length + 1) c) (r ++ [a]) := by
 obtain ⟨A, c, hv, hb, hg⟩ := h.form
 obtain ⟨g, rfl, hgb⟩ := hg (by simp)
 have hl : (r ++ [a] ++ [b]).length = r.length + 2 := by simp
 rw [hl] at hv
 subst hv
 obtain ⟨b', o', e, hlt, hcs⟩ := hb.rd (by simp)
 cases e
 have k1 := hcs r.length (by simp)
 have k2 := hcs (r.length + 1) (by simp)
 have e1 : (r ++ [a] ++ [b])[r.length]'(by simp) = a := by
  rw [List.getElem_append_left (by simp), List.getElem_append_right (by omega)]; simp
 have e2 : (r ++ [a] ++ [b])[r.length + 1]'(by simp) = b := by
  rw [List.getElem_append_right (by simp)]; simp
 rw [e1, Nat.zero_add] at k1
 rw [e2, Nat.zero_add] at k2
 exact ⟨g, c, rfl, hgb, by have := hb.cap; omega, hb.max, k1.1, k1.2, k2.1, k2.2, OwnP.pop h⟩
/-- the stack behind j points -/
def stkP (l : List (Int × Int)) (j : Nat) : List (Int × Int) := (l.take j).foldl pushP []
theorem stk_succ {l : List (Int × Int)} {j : Nat} (h : j < l.length) : stkP l (j + 1) = pushP (stkP l j) l[j] := by
 unfold stkP
 rw [List.take_succ_eq_append_getElem h, List.foldl_append]; rfl
theorem stk_all (l : List (Int × Int)) : (stkP l l.length).reverse = halfP l := by unfold stkP halfP; rw [List.take_length]
theorem pop_yes {a b p : Int × Int} {r : List (Int × Int)} (h : crsZ a b p ≤ 0) : popP (b :: a :: r) p = popP (a :: r) p := by
 conv => lhs; unfold popP
 rw [if_pos h]
theorem pop_no {a b p : Int × Int} {r : List (Int × Int)} (h : ¬ crsZ a b p ≤ 0) : popP (b :: a :: r) p = b :: a :: r := by
 conv => lhs; unfold popP
 rw [if_neg h]
def lenQ : Value → Nat
 | .slice _ n _ => n
 | _ => 0
/-- what a stack in the loops of half is -/
structure StIn (r : List (Int × Int)) (i : Nat) : Prop where
 ok : ∀ q ∈ r, inP q = true
 len : r.length ≤ i
theorem StIn.tail {a : Int × Int} {r : List (Int × Int)} {i : Nat} (h : StIn (a :: r) i) : StIn r i := ⟨fun q hq => h.ok q (List.mem_cons_of_mem _ hq), by have := h.len; simp at this; omega⟩
theorem StIn.push {r r' : List (Int × Int)} {p : Int × Int} {i : Nat} (h : StIn r i) (hp : inP p = true) (e : r = popP r' p) : StIn (pushP r' p) (i + 1) := by
 unfold pushP
 rw [← e]
 refine ⟨fun q hq => ?_, by have := h.len; simp; omega⟩
 rcases List.mem_cons.1 hq with rfl | hq
 ·exact hp
 ·exact h.ok q hq
set_option maxRecDepth 100000 in
set_option maxHeartbeats 4000000 in
theorem Ghalf_g (l : List (Int × Int)) (A : Option Addr) (c : Nat) {w : World} (hl : Pb w A c l) (hln : l.length ≤ 4096) (hin : ∀ p ∈ l, inP p = true) :
  Calls Tryz.prog 38 #[.slice A l.length c] w (RetR w (halfP l)) := by
 obtain ⟨n, hn⟩ : ∃ n, l.length = n := ⟨_, rfl⟩
 have hM := hid fun (j : Nat) (hj : j < n) (W : World) (hb : Below w.heap.size w W) => (hl.below hb).at_ (k := j) (by omega)
 have hI := hid fun (j : Nat) (hj : j < l.length) => hin _ (List.getElem_mem hj)
 have hC := hid fun (o a b : Int × Int) (ho : inP o = true) (ha : inP a = true) (hb : inP b = true) (W : World) => Gcross_g ho ha hb W
 have hE := hid (stk_all l)
 have hT := hid fun (j : Nat) (h : j < l.length) => stk_succ h
 have hn4 : n ≤ 4096 := by omega
 rw [hn] at hE ⊢
 have hn := hid hn
 have hO : OwnP w w.heap.size (.slice none 0 0) (stkP l 0).reverse := OwnP.nil _ _
 have hS : StIn (stkP l 0) 0 := ⟨fun q hq => by simp [stkP] at hq, by simp [stkP]⟩
 generalize halfP l = R at *
 generalize stkP l = st at *
 clear hl hln hin
 go_enter Tryz.func38, Tryz.ntmps38
 go_wp2
 go_loopw [8, 3] (fun s8 s3 wr => ∃ i : Nat, s8 = .int .i64 i ∧ i ≤ n ∧ Hid (StIn (st i) i) ∧ True ∧ OwnP wr w.heap.size s3 (st i).reverse ∧ Below w.heap.size w wr) (fun s8 _ _ => n - (intOf s8).toNat)
 case atStart => exact ⟨0, rfl, by omega, hid hS, trivial, hO, Below.refl _ _⟩
 case round =>
  obtain ⟨i, rfl, hi, hS, _, hO2, hB⟩ := hrel
  clear hO
  by_cases hin : i < n
  ·have hii : (i : Int) < (n : Int) := by omega
   have hil : i < l.length := by have := hn.out; omega
   obtain ⟨b, o, hA, c0, c1⟩ := hM.out i hin wr hB
   have hip := hid (hI.out i hil)
   have hti := hid (hT.out i hil)
   clear hM hI hT hE
   subst hA
   generalize l[i] = p at *
   obtain ⟨r1, hs1⟩ : ∃ r1, st (i + 1) = r1 := ⟨_, rfl⟩
   rw [hs1] at hti
   have hs1 := hid hs1
   generalize st i = r at *
   have hX := hid fun (r2 : List (Int × Int)) (h : StIn r2 i) (e : r2 = popP r p) => (show StIn r1 (i + 1) ∧ True ∧ r1.reverse = r2.reverse ++ [p] from ⟨by rw [hti.out]; exact h.push hip.out e, trivial, by rw [hti.out]; unfold pushP; rw [← e]; simp⟩)
   obtain ⟨x, y⟩ := p
   dsimp only at c0 c1
   clear hti
   go_wp2
   refine enterR (P := fun u => Code.wp _ _ _ _ u) (c := [.int .i64 x, .int .i64 y]) ?_
   intro v hv r4 zn4 hsz
   have d0 : v.cell? ⟨wr.heap.size, 0, none⟩ = some (.int .i64 x) := r4 0 _ rfl
   have d1 : v.cell? ⟨wr.heap.size, 1, none⟩ = some (.int .i64 y) := r4 1 _ rfl
   replace hB := bel_step hB hv
   replace hO2 := hO2.below hv
   clear hsz r4 zn4 hv c0 c1
   generalize wr.heap.size = gp at *
   have hq0 : Hid (popP r (x, y) = popP r (x, y)) := hid rfl
   go_loopw [3] (fun s3 wr => ∃ r2 : List (Int × Int), Hid (popP r2 (x, y) = popP r (x, y)) ∧ Hid (StIn r2 i) ∧ OwnP wr w.heap.size s3 r2.reverse ∧ Below w.heap.size w wr ∧ wr.cell? ⟨gp, 0, none⟩ = some (.int .i64 x) ∧ wr.cell? ⟨gp, 1, none⟩ = some (.int .i64 y)) (fun s3 _ => lenQ s3)
   case atStart => exact ⟨r, hq0, hS, hO2, hB, d0, d1⟩
   case round =>
    obtain ⟨r2, hP2, hS2, hO2, hB2, f0, f1⟩ := hrel
    clear hq0 hS hB d0 d1
    cases r2 with
    | nil =>
     replace hX := hid fun (h : StIn ([] : List (Int × Int)) i) => hX.out _ h (by rw [← hP2.out]; rfl)
     obtain ⟨A1, c1, rfl, hb1, _⟩ := hO2.form
     clear hb1
     have hR := hid (hX.out hS2.out)
     have hlen : ([] : List (Int × Int)).length ≤ 1000000 := by simp
     clear hX hS2 hP2
     go_wp2_with fail
     go_quiet (fail)
     have hv : Below wr.heap.size wr (wr.drewN nq) := below_drewN (Below.refl _ _) _
     generalize hvq : wr.drewN nq = v2 at hv ⊢
     clear hvq
     replace hB2 := bel_step hB2 hv
     replace hO2 := hO2.below hv
     have hwr2 := hB2.size
     have f0 := keep_cell hv f0
     have f1 := keep_cell hv f1
     clear hv
     have hOA := hO2.below ((Below.refl _ _).alloc (Nat.le_refl _) (.cells #[.int .i64 x, .int .i64 y] 24))
     have hBA := hB2.alloc hwr2 (.cells #[.int .i64 x, .int .i64 y] 24)
     clear hO2 hB2
     go_upto_region 8 with (at_builtin; refine wpList_appP rfl (.tmp 37) (.tmp 39) rfl w.heap.size _ _ (x, y) v2.heap.size rfl hOA rfl (at_alloc0 rfl) (at_alloc1 rfl) hlen (by simp; omega) ?_; intro s6 w6 hown6 hgr)
     have hB6 := Below.grown hBA hgr (by simp; omega) (fun b e => (World.ownsRow.lt hOA b e).1)
     clear hOA hBA hgr f0 f1
     go_wp2
     go_roundw
     case rel => exact ⟨i + 1, by go_num, by omega, hid (by rw [hs1.out]; exact hR.out.1), trivial, by rw [hs1.out, hR.out.2.2]; exact hown6, hB6⟩
     case measure => simp [intOf]; omega
    | cons b2 r2 =>
     cases r2 with
     | nil =>
      replace hX := hid fun (h : StIn [b2] i) => hX.out _ h (by rw [← hP2.out]; rfl)
      obtain ⟨A1, c1, rfl, hb1, _⟩ := hO2.form
      clear hb1
      have hR := hid (hX.out hS2.out)
      have hlen : ([b2] : List (Int × Int)).length ≤ 1000000 := by simp
      clear hX hS2 hP2
      go_wp2_with fail
      go_quiet (fail)
      have hv : Below wr.heap.size wr (wr.drewN nq) := below_drewN (Below.refl _ _) _
      generalize hvq : wr.drewN nq = v2 at hv ⊢
      clear hvq
      replace hB2 := bel_step hB2 hv
      replace hO2 := hO2.below hv
      have hwr2 := hB2.size
      have f0 := keep_cell hv f0
      have f1 := keep_cell hv f1
      clear hv
      have hOA := hO2.below ((Below.refl _ _).alloc (Nat.le_refl _) (.cells #[.int .i64 x, .int .i64 y] 24))
      have hBA := hB2.alloc hwr2 (.cells #[.int .i64 x, .int .i64 y] 24)
      clear hO2 hB2
      go_upto_region 8 with (at_builtin; refine wpList_appP rfl (.tmp 37) (.tmp 39) rfl w.heap.size _ _ (x, y) v2.heap.size rfl hOA rfl (at_alloc0 rfl) (at_alloc1 rfl) hlen (by simp; omega) ?_; intro s6 w6 hown6 hgr)
      have hB6 := Below.grown hBA hgr (by simp; omega) (fun b e => (World.ownsRow.lt hOA b e).1)
      clear hOA hBA hgr f0 f1
      go_wp2
      go_roundw
      case rel => exact ⟨i + 1, by go_num, by omega, hid (by rw [hs1.out]; exact hR.out.1), trivial, by rw [hs1.out, hR.out.2.2]; exact hown6, hB6⟩
      case measure => simp [intOf]; omega
     | cons a2 r3 =>
      rw [show (b2 :: a2 :: r3).reverse = r3.reverse ++ [a2] ++ [b2] by simp] at hO2
      obtain ⟨g, c1, rfl, hgb, hc1, hc2, k0, k1, k2, k3, hO3⟩ := hO2.two
      rw [List.length_reverse] at hc1 k0 k1 k2 k3 hO2 hO3 ⊢
      obtain ⟨z, hz⟩ : ∃ z, crsZ a2 b2 (x, y) = z := ⟨_, rfl⟩
      have HCr := hid fun (W : World) => (show Calls Tryz.prog 23 #[.agg #[.int .i64 a2.1, .int .i64 a2.2], .agg #[.int .i64 b2.1, .int .i64 b2.2], .agg #[.int .i64 x, .int .i64 y]] W (RetI W z) from by
       rw [← hz]; exact hC.out a2 b2 (x, y) (hS2.out.ok _ (by simp)) (hS2.out.ok _ (by simp)) hip.out W)
      have hm4 : r3.length + 2 ≤ 4096 := by have := hS2.out.len; simp at this; omega
      obtain ⟨m, hm⟩ : ∃ m, r3.length = m := ⟨_, rfl⟩
      obtain ⟨m1, hm1⟩ : ∃ m1, m + 1 = m1 := ⟨_, rfl⟩
      obtain ⟨k, hk⟩ : ∃ k, m + 2 = k := ⟨_, rfl⟩
      have hki : (1 : Int) < (k : Int) := by omega
      have hk2 : (k : Int) - 2 = (m : Int) := by omega
      have hk1 : (k : Int) - 1 = (m1 : Int) := by omega
      have hmk : (m : Int) < (k : Int) := by omega
      have hmk1 : (m1 : Int) < (k : Int) := by omega
      have hkc : (m1 : Int) ≤ (c1 : Int) := by omega
      have hm5 : m ≤ 4096 := by omega
      have hm6 : m1 ≤ 4096 := by omega
      have hw1 : IntKind.i64.wrap (m1 : Int) = (m1 : Int) := by rw [IntKind.wrap_i64]; omega
      have hw2 : IntKind.i64.wrap (m : Int) = (m : Int) := by rw [IntKind.wrap_i64]; omega
      by_cases hz0 : z ≤ 0
      ·have hP3 := hid (show popP (a2 :: r3) (x, y) = popP r (x, y) by rw [← hP2.out, pop_yes (by rw [hz]; exact hz0)])
       have hS3 := hid hS2.out.tail
       rw [show r3.reverse ++ [a2] = (a2 :: r3).reverse by simp] at hO3
       generalize a2 :: r3 = r4 at *
       obtain ⟨a0, a1⟩ := a2
       obtain ⟨b0, b1⟩ := b2
       dsimp only at *
       rw [hm, hm1] at k2 k3
       rw [hm] at k0 k1
       rw [hm, hm1] at hO3
       rw [hm, hk] at hc1 hm4 ⊢
       have hkk := hid hk
       replace hm1 := hid hm1
       clear hk hm hX hP2 hS2 hO2 hC hz hip
       go_wp2_with fail
       go_region_held3 (fun w' => (w'.cell? ⟨g, m * 2, none⟩ = some (.int .i64 a0) ∧ w'.cell? ⟨g, m * 2 + 1, none⟩ = some (.int .i64 a1)) ∧ (w'.cell? ⟨g, m1 * 2, none⟩ = some (.int .i64 b0) ∧ w'.cell? ⟨g, m1 * 2 + 1, none⟩ = some (.int .i64 b1)) ∧ (w'.cell? ⟨gp, 0, none⟩ = some (.int .i64 x) ∧ w'.cell? ⟨gp, 1, none⟩ = some (.int .i64 y))) (first | ((try dsimp only); repeat' (first | with_reducible assumption | apply And.intro | (with_reducible refine keep_alloc ?_) | (with_reducible refine keep_drew ?_) | (with_reducible refine keep_set (by omega) ?_) | (with_reducible refine keep_sets (by omega) ?_) | (with_reducible refine keep_cell (W := wr) ?_ ?_) | fail))) ((go_at_call 23; (with_reducible refine (HCr.out _).mono ?_); rintro e y5 ⟨rfl, hq_⟩; have qy5 : Below wr.heap.size wr y5 := bel_step BG hq_))
       all_goals
        go_wp2
        go_roundw
        case rel => exact ⟨r4, hP3, hS3, hO3.below qy5, bel_step hB2 qy5, keep_cell qy5 f0, keep_cell qy5 f1⟩
        case measure => have := hkk.out; have := hm1.out; simp [lenQ]; omega
      ·have hR := hid (hX.out _ hS2.out (by rw [← hP2.out, pop_no (by rw [hz]; exact hz0)]))
       have hlen : (r3.reverse ++ [a2] ++ [b2]).length ≤ 1000000 := by simp; omega
       rw [show (b2 :: a2 :: r3).reverse = r3.reverse ++ [a2] ++ [b2] by simp] at hR
       generalize r3.reverse ++ [a2] ++ [b2] = r4 at *
       obtain ⟨a0, a1⟩ := a2
       obtain ⟨b0, b1⟩ := b2
       dsimp only at *
       rw [hm, hm1] at k2 k3
       rw [hm] at k0 k1
       rw [hm, hk] at hO2 hc1 hm4 ⊢
       clear hk hm hm1 hX hP2 hS2 hO3 hC hz hip
       go_wp2_with fail
       go_region_held3 (fun w' => (w'.cell? ⟨g, m * 2, none⟩ = some (.int .i64 a0) ∧ w'.cell? ⟨g, m * 2 + 1, none⟩ = some (.int .i64 a1)) ∧ (w'.cell? ⟨g, m1 * 2, none⟩ = some (.int .i64 b0) ∧ w'.cell? ⟨g, m1 * 2 + 1, none⟩ = some (.int .i64 b1)) ∧ (w'.cell? ⟨gp, 0, none⟩ = some (.int .i64 x) ∧ w'.cell? ⟨gp, 1, none⟩ = some (.int .i64 y))) (first | ((try dsimp only); repeat' (first | with_reducible assumption | apply And.intro | (with_reducible refine keep_alloc ?_) | (with_reducible refine keep_drew ?_) | (with_reducible refine keep_set (by omega) ?_) | (with_reducible refine keep_sets (by omega) ?_) | (with_reducible refine keep_cell (W := wr) ?_ ?_) | fail))) ((go_at_call 23; (with_reducible refine (HCr.out _).mono ?_); rintro e v2 ⟨rfl, hq_⟩; have qy5 : Below wr.heap.size wr v2 := bel_step BG hq_))
       all_goals
        replace hB2 := bel_step hB2 qy5
        replace hO2 := hO2.below qy5
        have hwr2 := hB2.size
        have f0 := keep_cell qy5 f0
        have f1 := keep_cell qy5 f1
        clear k0 k1 k2 k3 qy5 HCr
        have hOA := hO2.below ((Below.refl _ _).alloc (Nat.le_refl _) (.cells #[.int .i64 x, .int .i64 y] 24))
        have hBA := hB2.alloc hwr2 (.cells #[.int .i64 x, .int .i64 y] 24)
        clear hO2 hB2
        go_upto_region 8 with (at_builtin; refine wpList_appP rfl (.tmp 37) (.tmp 39) rfl w.heap.size _ _ (x, y) v2.heap.size rfl hOA rfl (at_alloc0 rfl) (at_alloc1 rfl) hlen (by simp; omega) ?_; intro s6 w6 hown6 hgr)
        have hB6 := Below.grown hBA hgr (by simp; omega) (fun b e => (World.ownsRow.lt hOA b e).1)
        clear hOA hBA hgr f0 f1
        go_wp2
        go_roundw
        case rel => exact ⟨i + 1, by go_num, by omega, hid (by rw [hs1.out]; exact hR.out.1), trivial, by rw [hs1.out, hR.out.2.2]; exact hown6, hB6⟩
        case measure => simp [intOf]; omega
  ·obtain rfl : i = n := by omega
   have hii : ¬ (i : Int) < (i : Int) := by omega
   rw [hE.out] at hO2
   have hfin := hid hO2
   clear hM hI hO2 hC hT hS
   go_wp2
   go_ret
   exact ⟨_, rfl, hfin.out, hB⟩
end Go.Proofs.YtglailcfgcdagaaGreat
/- Geometry: append of points to an owned row, hull, Hull of the package. Conditions: at most 4096 points, coordinates in range. -/
namespace Go.Proofs.YtglailcfgcdagaaGreat
open Go.RowKit Big Go.Shelf Go.Lib Go.Sort
theorem one_cellsP : ∀ (l : List (Int × Int)), ∀ u ∈ cellsP l, u.oneCell' = true
 | [], u, h => by simp [cellsP] at h
 | p :: l, u, h => by
  simp only [cellsP, List.mem_cons] at h
  rcases h with rfl | rfl | h
  ·rfl
  ·rfl
  ·exact one_cellsP l u h
theorem Pb.range {w : World} {g o c : Nat} {l : List (Int × Int)} (h : Pb w (some ⟨g, o, none⟩) c l) : w.rangeAt g o (cellsP l) := fun j u hu => by
 have hj : j < (cellsP l).length := (List.getElem?_eq_some_iff.1 hu).1
 rw [cellsP_len] at hj
 obtain ⟨b, o', e, _, hc⟩ := h.rd (by omega)
 cases e
 obtain ⟨c0, c1⟩ := hc (j / 2) (by omega)
 obtain ⟨h0, h1⟩ := cellsP_get l (j / 2) (by omega)
 rcases (show j % 2 = 0 ∨ j % 2 = 1 by omega) with h2 | h2
 ·rw [show j / 2 * 2 = j by omega] at h0 c0
  rw [h0] at hu
  rw [c0]; exact hu
 ·rw [show j / 2 * 2 + 1 = j by omega] at h1
  rw [show o + j / 2 * 2 + 1 = o + j by omega] at c1
  rw [h1] at hu
  rw [c1]; exact hu
theorem Pb.take {w : World} {A : Option Addr} {c : Nat} {l m : List (Int × Int)} (h : Pb w A c (l ++ m)) : Pb w A c l :=
 ⟨by have := h.cap; simp at this; omega, h.max, fun h0 => by
  obtain ⟨b, o, e, h1, h2⟩ := h.rd (by simp; omega)
  refine ⟨b, o, e, h1, fun j hj => ?_⟩
  have := h2 j (by simp; omega)
  rw [List.getElem_append_left hj] at this
  exact this⟩
theorem run_appQ {w : World} (ty : TypeId) (base : Nat) (v : Value) (l : List (Int × Int)) (hown : OwnP w base v l) (A : Option Addr) (c : Nat) (m : List (Int × Int)) (hm : Pb w A c m) (h0 : 0 < m.length) (hn : l.length + m.length ≤ 1000000) (hbase : base ≤ w.heap.size) :
  ∃ v' w', (Builtin.append_ #[22, 22] ty #[v, .slice A m.length c]).run Tryz.prog w = .ok v' w' ∧ OwnP w' base v' (l ++ m) ∧ w.grownBy w' v.ownBlock := by
 obtain ⟨i, hi, hzz⟩ := Option.map_eq_some_iff.1 infoPt
 simp only [Prod.mk.injEq] at hzz
 obtain ⟨hz, hs2, hb⟩ := hzz
 obtain ⟨b, o, rfl, hlt, _⟩ := hm.rd h0
 have hr := hm.range
 obtain ⟨v', w', hrun, h2, h3, _, _⟩ := run_append_own_at (P := Tryz.prog) w base 22 ty 24 i _ 2 16 Tryz.underlying22 hi hz hs2 hb rfl (by omega) v l.length (cellsP l) hown ⟨b, o, none⟩ m.length c (cellsP m) (cellsP_len m) (fun j u hu => by have := hr j u hu; rwa [← Addr.add_mid] at this) (one_cellsP m) (by unfold maxLen; omega) (by omega) hbase
 exact ⟨v', w', hrun, by unfold OwnP; rw [List.length_append, cellsP_app]; exact h2, h3⟩
theorem step_appQ {w : World} {ops : Array Oper} {o : Oper} {a : Act} {K : Act → World → Prop} {Q : Exit → Act → World → Prop} {E : Prop} (hgd : o.guard = none) (s x : Operand)
  (ho : o.op = .call { callee := .builtin .append, args := #[s, x], argTypes := #[22, 22] })
  (base : Nat) (v : Value) (l : List (Int × Int)) (hs : a.eval s = v) (hown : OwnP w base v l) (A : Option Addr) (n c : Nat) (m : List (Int × Int)) (hx : a.eval x = .slice A n c) (hmn : m.length = n) (hm : Pb w A c m) (h0 : 0 < m.length) (hn : l.length + m.length ≤ 1000000) (hbase : base ≤ w.heap.size)
  (h : ∀ v' w', OwnP w' base v' (l ++ m) → w.grownBy w' v.ownBlock → K (a.put o.dst v') w') :
  if Region.wanted o (yielded ops a.tmps) = true then Oper.wp Tryz.prog o a w K Q else E := by
 have hw : Region.wanted o (yielded ops a.tmps) = true := by simp [Region.wanted, hgd]
 rw [if_pos hw]
 subst hmn
 obtain ⟨v', w', hrun, h2, h3⟩ := run_appQ o.type base v l hown A c m hm h0 hn hbase
 unfold Oper.wp execOp
 simp only [ho, resolve, invoke, builtin, Sem.run_bind, Sem.run_pure, Result.andThen_ok, List.map_toArray, List.map_cons, List.map_nil, hs, hx, hrun]
 exact h v' w' h2 h3
theorem OwnP.frozen {w : World} {base g n c : Nat} {l : List (Int × Int)} (h : OwnP w base (.slice (some ⟨g, 0, none⟩) n c) l) (i : Nat) : w.frozen? ⟨g, i, none⟩ = false := by
 rcases h.2 with ⟨h1, _⟩ | ⟨g', cap, cur, hv, hbg, hg, _⟩
 ·cases h1
 ·injection hv with h1
  cases h1
  simp [World.frozen?, hg]
theorem OwnP.holds {w : World} {base g n c : Nat} {l : List (Int × Int)} (h : OwnP w base (.slice (some ⟨g, 0, none⟩) n c) l) (hp : Pb w (some ⟨g, 0, none⟩) c l) : HoldsK encP 2 w g 0 l.toArray :=
 holds_of_pb (fun j hj => by
  obtain ⟨b, o, e, _, hc⟩ := hp.rd (by omega)
  cases e
  exact hc j hj) h.frozen
theorem OwnP.putK {w : World} {base : Nat} {v : Value} {l : List (Int × Int)} (h : OwnP w base v l) {g n off : Nat} {d : Array (Int × Int)} (hg : g < base) : OwnP (putRowK encP 2 (Sort.ahead w n) g off d) base v l := by
 refine ⟨h.1, ?_⟩
 rcases h.2 with h2 | ⟨g', cap, cur, hv, hbg, hh, r⟩
 ·exact .inl h2
 ·refine .inr ⟨g', cap, cur, hv, hbg, ?_, r⟩
  rw [← hh]
  simp only [putRowK, putRow, mapBlock, Sort.ahead]
  rw [Array.getElem?_modify, if_neg (by omega)]
theorem half_ne {S : List (Int × Int)} (hs : S.Pairwise lexP) (h0 : S ≠ []) : halfP S ≠ [] := fun e => by
 have h := (half_of hs).first
 rw [e] at h
 cases S with
 | nil => exact h0 rfl
 | cons a S => simp at h
theorem half_len {S : List (Int × Int)} (hs : S.Pairwise lexP) : (halfP S).length ≤ S.length := by
 have h := half_of hs
 exact len_sub _ _ (h.sorted.imp lex_ne) h.sub
theorem halfR_len {S : List (Int × Int)} (hs : S.Pairwise lexP) : (halfP S.reverse).length ≤ S.length ∧ (S ≠ [] → halfP S.reverse ≠ []) := by
 have hr : (S.reverse.map negP).Pairwise lexP := by
  rw [List.pairwise_map, List.pairwise_reverse]
  exact hs.imp fun h => lex_neg.2 h
 have h1 := half_len hr
 have h2 := half_ne hr
 rw [half_neg] at h1 h2
 simp at h1 h2
 exact ⟨h1, h2⟩
theorem drop_last {l : List (Int × Int)} (h : l ≠ []) : ∃ m p, l = m ++ [p] ∧ l.dropLast = m := ⟨l.dropLast, l.getLast h, (List.dropLast_concat_getLast h).symm, rfl⟩
theorem drop_two {S : List (Int × Int)} (hs : S.Pairwise lexP) (h2 : 2 ≤ S.length) : (halfP S.reverse).dropLast ≠ [] := fun e => by
 have h := hull_two hs h2
 have hr : (S.reverse.map negP).Pairwise lexP := by
  rw [List.pairwise_map, List.pairwise_reverse]
  exact hs.imp fun h => lex_neg.2 h
 have hB := half_of hr
 rw [half_neg] at hB
 have hne := (halfR_len hs).2 (fun e => by subst e; simp at h2)
 obtain ⟨m, p, e1, e2⟩ := drop_last hne
 rw [e] at e2
 subst e2
 rw [e1] at hB
 have f1 := hB.first
 have f2 := hB.last
 obtain ⟨a, b, m2, rfl⟩ : ∃ a b m2, S = a :: (m2 ++ [b]) := by
  cases S with
  | nil => simp at h2
  | cons f S =>
   rcases List.eq_nil_or_concat S with rfl | ⟨m, z, rfl⟩
   ·simp at h2
   ·exact ⟨f, z, m, by simp⟩
 have hab : lexP a b := (List.pairwise_cons.1 hs).1 b (by simp)
 have el : (a :: (m2 ++ [b])).getLast? = some b := List.getLast?_concat (l := a :: m2)
 rw [List.head?_map, List.head?_map, List.head?_reverse, el] at f1
 rw [List.getLast?_map, List.getLast?_map, List.getLast?_reverse, List.head?_cons] at f2
 simp only [List.nil_append, List.head?_cons, List.getLast?_singleton, Option.map_some, Option.some.injEq] at f1 f2
 have : negP a = negP b := f2.symm.trans f1
 exact lex_ne (lex_neg.2 hab) this.symm
set_option maxRecDepth 100000 in
set_option maxHeartbeats 4000000 in
theorem Ghull_g (l : List (Int × Int)) (A : Option Addr) (c : Nat) {w : World} (hl : Pb w A c l) (hln : l.length ≤ 4096) (h0 : l ≠ []) (hin : ∀ p ∈ l, inP p = true) :
    Calls Tryz.prog 19 #[.slice A l.length c] w (RetR w (hullP l)) := by
  have H1 := hid (Gsorted_g l A c hl hln)
  have hs := sortP_sorted l
  have hm := fun s => sortP_mem (s := s) l
  have hsl : (sortP l).length ≤ 4096 := by
    have := dedP_le (l.mergeSort fun x y => !decide (cmpP y x < 0))
    rw [List.length_mergeSort] at this
    unfold sortP; omega
  have hsi : ∀ p ∈ sortP l, inP p = true := fun p h => hin p ((hm p).1 h)
  have hs0 : sortP l ≠ [] := fun e => by
    obtain ⟨a, ha⟩ := List.exists_mem_of_ne_nil l h0
    have := (hm a).2 ha
    rw [e] at this; simp at this
  have hQ : hullP l = if (sortP l).length = 1 then sortP l else (halfP (sortP l)).dropLast ++ (halfP (sortP l).reverse).dropLast := rfl
  generalize hullP l = R at *
  generalize sortP l = S at *
  replace hQ := hid hQ
  have hhl := half_len hs
  have hrl := halfR_len hs
  have hh0 := half_ne hs hs0
  have hd2 := fun h => drop_two hs h
  have HF := hid fun (S' : List (Int × Int)) (hS' : ∀ p ∈ S', inP p = true) (hl' : S'.length ≤ 4096) (W : World) (A' : Option Addr) (c' : Nat) (h : Pb W A' c' S') => Ghalf_g S' A' c' h hl' hS'
  obtain ⟨n, hn⟩ : ∃ n, l.length = n := ⟨_, rfl⟩
  rw [hn] at H1 ⊢
  clear hs hm hin hl hln hn h0
  go_enter Tryz.func19, Tryz.ntmps19
  go_wp2_with fail
  refine H1.out.mono ?_
  rintro e w1 ⟨v1, rfl, hO1, hB1⟩
  replace hO1 : OwnP w1 w.heap.size v1 S := hO1
  obtain ⟨A1, c1, rfl, hP1, hg1⟩ := hO1.form
  obtain ⟨g, rfl, hgb⟩ := hg1 (List.length_pos_iff.2 hs0)
  obtain ⟨k, hk⟩ : ∃ k, S.length = k := ⟨_, rfl⟩
  by_cases h1 : k = 1
  · have hR := hQ.out
    rw [hk, if_pos h1] at hR
    subst hR
    rw [hk, h1] at hO1 ⊢
    have hfin := hid (And.intro hO1 hB1)
    clear hO1 hB1 hQ HF H1 hP1 hg1 hsi hs0 hhl hrl hh0 hd2
    go_wp2
    go_ret
    exact ⟨_, rfl, hfin.out⟩
  · have hR := hQ.out
    rw [hk, if_neg h1] at hR
    have hk1 : ¬ (k : Int) = 1 := by omega
    have hlt : g < w1.heap.size := by
      obtain ⟨b', o', e', h5, _⟩ := hP1.rd (List.length_pos_iff.2 hs0)
      cases e'; exact h5
    have H2 := hid (HF.out S hsi hsl w1 _ c1 hP1)
    have HV := hid fun (W : World) (h : HoldsK encP 2 W g 0 S.toArray) => rev_w S g 0 c1 W h (by omega)
    have HB4 := hid fun (W : World) (h : Pb W (some ⟨g, 0, none⟩) c1 S.reverse) => HF.out S.reverse (fun p hp => hsi p (List.mem_reverse.1 hp)) (by simp; omega) W _ c1 h
    have hd4 := hd2 (by have := List.length_pos_iff.2 hs0; omega)
    have hcap := hP1.cap
    have hcm := hP1.max
    rw [List.length_reverse] at HB4
    rw [hk] at H2 HV HB4 hhl hrl hsl hcap ⊢
    obtain ⟨m2, p2, e2, f2⟩ := drop_last hh0
    obtain ⟨m4, p4, e4, f4⟩ := drop_last (hrl.2 hs0)
    have hl2 : m2.length ≤ 4096 := by rw [e2] at hhl; simp at hhl; omega
    have hl4 : m4.length ≤ 4096 := by have := hrl.1; rw [e4] at this; simp at this; omega
    rw [f4] at hd4
    have hp4 := List.length_pos_iff.2 hd4
    rw [f2, f4] at hR
    subst hR
    rw [e2] at H2
    rw [e4] at HB4
    replace hO1 := hid (And.intro hO1 (And.intro hP1 (And.intro hB1 (And.intro hk hlt))))
    clear hQ HF hhl hrl hh0 hd2 hd4 e2 e4 f2 f4 hg1 hP1 hB1 hk hlt H1 hsi hs0
    go_wp2_with fail
    refine H2.out.mono ?_
    rintro e w2 ⟨v2, rfl, hO2, hB2⟩
    replace hO2 : OwnP w2 w1.heap.size v2 (m2 ++ [p2]) := hO2
    have hH := (hO1.out.1.below hB2).holds (hO1.out.2.1.below hB2)
    go_wp2_with fail
    refine (HV.out w2 hH).mono ?_
    rintro e w3 ⟨rfl, n3, hw3⟩
    obtain ⟨hO1, hP1, hB1, hk, hlt⟩ := hO1.out
    have hlt2 := Nat.lt_of_lt_of_le hlt hB2.size
    have hB3 : Below w.heap.size w w3 := by rw [hw3]; exact (hB1.trans (hB2.mono hB1.size)).trans (below_putK hgb)
    have hH3 : HoldsK encP 2 w3 g 0 S.reverse.toArray := by rw [hw3]; exact holdsK_putRowK _ _ _ _ _ _ _ (holdsK_ahead _ _ _ n3 _ _ _ hH) (by simp)
    have hlt3 : g < w3.heap.size := by rw [hw3]; simp [putRowK, Sort.ahead]; exact hlt2
    have hP3 : Pb w3 (some ⟨g, 0, none⟩) c1 S.reverse := pb_of_holds hH3 (by rw [List.length_reverse, hk]; exact hcap) hcm hlt3
    have hO3 : OwnP w3 w1.heap.size v2 (m2 ++ [p2]) := by rw [hw3]; exact hO2.putK hlt
    have hsz3 : w1.heap.size ≤ w3.heap.size := by rw [hw3]; simp [putRowK, Sort.ahead]; exact hB2.size
    have H4 := hid (HB4.out w3 hP3)
    have hsz1 := hB1.size
    clear hw3 hH3 hO2 hH HV HB4 hP3 hO1 hP1 hB1 hB2 hk
    go_wp2_with fail
    refine H4.out.mono ?_
    rintro e w4 ⟨v4, rfl, hO4, hB4⟩
    replace hO4 : OwnP w4 w3.heap.size v4 (m4 ++ [p4]) := hO4
    have hB5 : Below w.heap.size w w4 := hB3.trans (hB4.mono hB3.size)
    have hO5 : OwnP w4 w.heap.size v2 (m2 ++ [p2]) := (hO3.below hB4).older hsz1
    obtain ⟨A2, c2, rfl, hq2, _⟩ := hO5.form
    obtain ⟨A4, c4, rfl, hq4, _⟩ := hO4.form
    have hO6 := OwnP.pop hO5
    have hq5 := hq4.take
    have b2 := hq2.cap
    have b4 := hq4.cap
    have b2m := hq2.max
    have b4m := hq4.max
    obtain ⟨q2, hk2⟩ : ∃ q, m2.length = q := ⟨_, rfl⟩
    obtain ⟨q4, hk4⟩ : ∃ q, m4.length = q := ⟨_, rfl⟩
    obtain ⟨n2, hn2⟩ : ∃ n, (m2 ++ [p2]).length = n := ⟨_, rfl⟩
    obtain ⟨n4, hn4⟩ : ∃ n, (m4 ++ [p4]).length = n := ⟨_, rfl⟩
    have hq2n : n2 - 1 = q2 := by rw [← hn2, ← hk2]; simp
    have hq4n : n4 = q4 + 1 := by rw [← hn4, ← hk4]; simp
    rw [hn2] at b2 hO6 ⊢
    rw [hn4] at b4 ⊢
    rw [hq2n] at hO6
    rw [hk2] at hl2
    rw [hk4] at hl4 hp4
    have g1 : (n2 : Int) - 1 = (q2 : Int) := by have : n2 = q2 + 1 := by rw [← hn2, ← hk2]; simp
                                                omega
    have g2 : (n4 : Int) - 1 = (q4 : Int) := by omega
    have g3 : IntKind.i64.wrap (q2 : Int) = (q2 : Int) := by rw [IntKind.wrap_i64]; omega
    have g4 : IntKind.i64.wrap (q4 : Int) = (q4 : Int) := by rw [IntKind.wrap_i64]; omega
    have g5 : (q2 : Int) ≤ (c2 : Int) := by omega
    have g6 : (q4 : Int) ≤ (c4 : Int) := by omega
    have hlen : m2.length + m4.length ≤ 1000000 := by omega
    have hp5 : 0 < m4.length := by omega
    have hb5 := hB5.size
    replace hk4 := hid hk4
    clear hq2 hq4 hO5 hO4 hO3 hB4 hB3 H4 hk2 hn2 hn4 hq2n hq4n hsz3 hsz1
    go_wp2_with fail
    go_region_held3 (fun _ => True) (trivial) ((refine step_appQ rfl (.tmp 21) (.tmp 26) rfl w.heap.size _ m2 rfl (hO6.below BG) A4 q4 c4 m4 rfl hk4.out (hq5.below BG) hp5 hlen (by simp; omega) ?_; intro v5 w5 hO7 hgr))
    all_goals
      have hB7 : Below w.heap.size w w5 := Below.grown hB5.drew hgr hb5 (fun b e => (World.ownsRow.lt hO6 b e).1)
      clear hgr hO6 hq5
      go_wp2
      go_ret
      exact ⟨_, rfl, hO7, hB7⟩
end Go.Proofs.YtglailcfgcdagaaGreat
