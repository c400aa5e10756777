/- Reading order: the statement that moving changes nothing. Conditions: int16 distances. -/
import Derived.Test.YtjdgjhaggpahkaaZRz4
set_option linter.unusedVariables false
set_option linter.unusedSimpArgs false
namespace Go.Proofs.Ytjdgjhaggpahkaa
open Go.RowKit Go.Deep
def inB (b : Bx) : Prop := -4096 ≤ b.x ∧ b.x ≤ 4096 ∧ -4096 ≤ b.y ∧ b.y ≤ 4096
set_option maxRecDepth 100000 in
set_option maxHeartbeats 16000000 in
theorem Moves_law (l : List Bx) (A : Option Addr) (c : Nat) (gap dx dy : Int) (hx1 : -32768 ≤ dx) (hx2 : dx ≤ 32767) (hy1 : -32768 ≤ dy) (hy2 : dy ≤ 32767) {w : World} (hl : Qb w A c l) :
  Calls Try.prog 8 #[.slice A l.length c, .int .i64 gap, .int .i16 dx, .int .i16 dy] w (RetB w true) := by
 obtain ⟨n, hn⟩ : ∃ n, l.length = n := ⟨_, rfl⟩
 have HB := Below.refl w.heap.size w
 by_cases hbig : n ≤ 60
 ·have hbi : ¬ (60 : Int) < (n : Int) := by omega
  have hM := hid fun (j : Nat) (hj : j < l.length) (W : World) (hb : Below w.heap.size w W) => (hl.below hb).at_ (k := j) hj
  have hO0 : OwnB w w.heap.size (.slice none 0 0) ((l.take 0).map (shB (dx.tmod 4096) (dy.tmod 4096))) := OwnB.nil w _
  have hl0 := hid hl
  have hdx : -4095 ≤ dx.tmod 4096 ∧ dx.tmod 4096 ≤ 4095 := by
   have h1 := Int.lt_tmod_of_pos dx (show (0 : Int) < 4096 by omega)
   have h2 := Int.tmod_lt_of_pos dx (show (0 : Int) < 4096 by omega)
   omega
  have hdy : -4095 ≤ dy.tmod 4096 ∧ dy.tmod 4096 ≤ 4095 := by
   have h1 := Int.lt_tmod_of_pos dy (show (0 : Int) < 4096 by omega)
   have h2 := Int.tmod_lt_of_pos dy (show (0 : Int) < 4096 by omega)
   omega
  rw [hn]
  replace hn := hid hn
  clear hl
  go_enter Try.func8, Try.ntmps8
  go_wp2
  go_loopw [30, 9] (fun ss sv wr => ∃ (i : Nat), ss = .int .i64 (i : Int) ∧ i ≤ n ∧ OwnB wr w.heap.size sv ((l.take i).map (shB (dx.tmod 4096) (dy.tmod 4096))) ∧ Hid (∀ j (h : j < l.length), j < i → inB l[j]) ∧ Below w.heap.size w wr) (fun ss _ _ => n - (intOf ss).toNat)
  case atStart => exact ⟨0, rfl, by omega, hO0, hid (fun j _ h => by omega), HB⟩
  case round =>
   clear HB hO0
   obtain ⟨i, rfl, hi, hO, hA, HB⟩ := hrel
   by_cases hin : i < n
   ·have hii : (i : Int) < (n : Int) := by omega
    have hil : i < l.length := by have := hn.out; omega
    obtain ⟨b, o, hA3, e0, e1, e2, e3⟩ := hM.out i hil wr HB
    subst hA3
    have hst := hid (show (l.take (i + 1)).map (shB (dx.tmod 4096) (dy.tmod 4096)) = (l.take i).map (shB (dx.tmod 4096) (dy.tmod 4096)) ++ [shB (dx.tmod 4096) (dy.tmod 4096) l[i]] from by
     rw [List.take_succ_eq_append_getElem hil, List.map_append]; rfl)
    have hA2 := hid fun (h : inB l[i]) (j : Nat) (hj : j < l.length) (hji : j < i + 1) => (show inB l[j] from by
     by_cases e : j = i
     ·subst e; exact h
     ·exact hA.out j hj (by omega))
    have hTl : ((l.take i).map (shB (dx.tmod 4096) (dy.tmod 4096))).length ≤ 1000000 := by simp; omega
    generalize (l.take i).map (shB (dx.tmod 4096) (dy.tmod 4096)) = T at *
    generalize l[i] = q at *
    obtain ⟨x, y, bw, bh⟩ := q
    unfold shB at hst
    unfold inB at hA2
    dsimp only at e0 e1 e2 e3 hst hA2
    clear hM hA
    go_upto_region 7 with fail
    have hbA := HB.alloc HB.size (.cells #[.int .i64 x, .int .i64 y, .int .i64 bw, .int .i64 bh] 31)
    have hO := hO.below ((Below.refl _ _).alloc (Nat.le_refl _) (.cells #[.int .i64 x, .int .i64 y, .int .i64 bw, .int .i64 bh] 31))
    have r0 := rng_alloc (w := wr) (cs := [.int .i64 x, .int .i64 y, .int .i64 bw, .int .i64 bh]) (t := 31)
    generalize hg : wr.heap.size = g at *
    replace hg := hid hg
    generalize wr.alloc (.cells #[.int .i64 x, .int .i64 y, .int .i64 bw, .int .i64 bh] 31) = v at *
    have c0 : v.cell? ⟨g, 0, none⟩ = some (.int .i64 x) := r0 0 _ rfl
    have c1 : v.cell? ⟨g, 1, none⟩ = some (.int .i64 y) := r0 1 _ rfl
    have c2 : v.cell? ⟨g, 2, none⟩ = some (.int .i64 bw) := r0 2 _ rfl
    have c3 : v.cell? ⟨g, 3, none⟩ = some (.int .i64 bh) := r0 3 _ rfl
    clear r0 e0 e1 e2 e3
    replace HB := hbA
    clear hbA
    by_cases x1 : x < -4096
    ·clear hst hA2 hO
     go_wp2_with fail
     refine (examples_ok _).mono ?_
     rintro e w8 ⟨rfl, hb⟩
     replace HB := bel_step HB hb
     clear hb
     go_wp2
     go_ret
     exact ⟨rfl, HB⟩
    by_cases x2 : 4096 < x
    ·clear hst hA2 hO
     go_wp2_with fail
     refine (examples_ok _).mono ?_
     rintro e w8 ⟨rfl, hb⟩
     replace HB := bel_step HB hb
     clear hb
     go_wp2
     go_ret
     exact ⟨rfl, HB⟩
    by_cases y1 : y < -4096
    ·clear hst hA2 hO
     go_wp2_with fail
     refine (examples_ok _).mono ?_
     rintro e w8 ⟨rfl, hb⟩
     replace HB := bel_step HB hb
     clear hb
     go_wp2
     go_ret
     exact ⟨rfl, HB⟩
    by_cases y2 : 4096 < y
    ·clear hst hA2 hO
     go_wp2_with fail
     refine (examples_ok _).mono ?_
     rintro e w8 ⟨rfl, hb⟩
     replace HB := bel_step HB hb
     clear hb
     go_wp2
     go_ret
     exact ⟨rfl, HB⟩
    replace hA2 := hid (hA2.out ⟨by omega, by omega, by omega, by omega⟩)
    go_upto_region 9 with fail
    go_wp2_with fail
    refine (Lbox_g _ _ _ _ v).mono ?_
    rintro e v5 ⟨rfl, hb⟩
    replace HB := bel_step HB hb
    have hO := hO.below hb
    clear hb c0 c1 c2 c3
    have r0 := rng_alloc (w := v5) (cs := cellsB [⟨x + dx.tmod 4096, y + dy.tmod 4096, bw, bh⟩]) (t := 31)
    have hOx := hO.below ((Below.refl _ _).alloc (Nat.le_refl _) (.cells #[.int .i64 (x + dx.tmod 4096), .int .i64 (y + dy.tmod 4096), .int .i64 bw, .int .i64 bh] 31))
    have hbx := HB.alloc HB.size (.cells #[.int .i64 (x + dx.tmod 4096), .int .i64 (y + dy.tmod 4096), .int .i64 bw, .int .i64 bh] 31)
    have hsx := hbx.size
    clear hO HB
    go_wp2_with (at_builtin; go_loud (refine wpList_appB rfl (.tmp 53) (.tmp 71) rfl w.heap.size u9 T ⟨x + dx.tmod 4096, y + dy.tmod 4096, bw, bh⟩ v5.heap.size rfl hOx rfl r0 hTl hsx ?_); intro v6 w6 hO6 hg6)
    have hb6 := hid (Below.grownB hbx hOx hg6 hsx (Nat.le_refl _))
    have hO7 := hid (show OwnB w6 w.heap.size v6 ((l.take (i + 1)).map (shB (dx.tmod 4096) (dy.tmod 4096))) from by
     have h1 := hst.out
     rw [show (l.take (i + 1)).map (shB (dx.tmod 4096) (dy.tmod 4096)) = T ++ [⟨x + dx.tmod 4096, y + dy.tmod 4096, bw, bh⟩] from h1]
     exact hO6)
    clear hg6 hO6 hOx hbx hst r0
    go_roundw
    case rel => exact ⟨i + 1, by go_num, by omega, hO7.out, hA2, hb6.out⟩
    case measure => simp [intOf]; omega
   ·obtain rfl : i = n := by omega
    have hii : ¬ (i : Int) < (i : Int) := by omega
    have hs := shf_map l (dx.tmod 4096) (dy.tmod 4096)
    rw [show l.take i = l from List.take_of_length_le (by have := hn.out; omega)] at hO
    have hin2 : ∀ b ∈ l, inB b := fun b hb => by
     obtain ⟨j, hj, e⟩ := List.mem_iff_getElem.1 hb
     rw [← e]
     exact hA.out j hj (by have := hn.out; omega)
    generalize l.map (shB (dx.tmod 4096) (dy.tmod 4096)) = m at *
    obtain ⟨B, d, hu, hq⟩ := hO.qb
    subst hu
    have hml := hs.len
    obtain ⟨⟨a1, f1⟩, hS1⟩ : ∃ q, sortE l = q := ⟨_, rfl⟩
    obtain ⟨⟨a2, f2⟩, hS2⟩ : ∃ q, sortE m = q := ⟨_, rfl⟩
    obtain ⟨C1, hC1⟩ : ∃ q, colC l gap = q := ⟨_, rfl⟩
    obtain ⟨C2, hC2⟩ : ∃ q, colC m gap = q := ⟨_, rfl⟩
    obtain ⟨g1, hg1⟩ : ∃ q, chkB l gap = q := ⟨_, rfl⟩
    obtain ⟨g2, hg2⟩ : ∃ q, chkB m gap = q := ⟨_, rfl⟩
    obtain ⟨⟨P1, k1⟩, hP1⟩ : ∃ q, parE l gap = q := ⟨_, rfl⟩
    obtain ⟨⟨P2, k2⟩, hP2⟩ : ∃ q, parE m gap = q := ⟨_, rfl⟩
    have hall := hid fun (h1 : ¬ f2 = 3) (h2 : ¬ g2 = 3) => (show a1 = a2 ∧ f1 = f2 ∧ C1 = C2 ∧ g1 = 0 ∧ g2 = 0 ∧ P1 = P2 ∧ k1 = k2 from by
     have := moves (gap := gap) hs (by have := hn.out; omega) hin2 (by rw [hS2]; exact h1) (by rw [hg2]; exact h2)
     rw [hS1, hS2, hC1, hC2, hg1, hg2, hP1, hP2] at this
     obtain ⟨q1, q2, q3, q4, q5⟩ := this
     injection q1 with q1 q6
     injection q5 with q5 q7
     exact ⟨q1, q6, q2, q3, q4, q5, q7⟩)
    have T1 := hid fun (W : World) (hb : Below w.heap.size w W) => (show Calls Try.prog 12 #[.slice A i c] W (RetOE W (a1, f1)) from by rw [← hS1, ← hn.out]; exact GSort_g l A c (hl0.out.below hb))
    have T2 := hid fun (W : World) (hb : Below wr.heap.size wr W) => (show Calls Try.prog 12 #[.slice B m.length d] W (RetOE W (a2, f2)) from by rw [← hS2]; exact GSort_g m B d (hq.below hb))
    have T3 := hid fun (W : World) (hb : Below w.heap.size w W) => (show Calls Try.prog 17 #[.slice A i c, .int .i64 gap] W (RetLE W C1 g1) from by rw [← hC1, ← hg1, ← hn.out]; exact GCol_c l A c gap (hl0.out.below hb))
    have T4 := hid fun (W : World) (hb : Below wr.heap.size wr W) => (show Calls Try.prog 17 #[.slice B m.length d, .int .i64 gap] W (RetLE W C2 g2) from by rw [← hC2, ← hg2]; exact GCol_c m B d gap (hq.below hb))
    have T5 := hid fun (W : World) (hb : Below w.heap.size w W) => (show Calls Try.prog 20 #[.slice A i c, .int .i64 gap] W (RetLE W P1 k1) from by have := GPar_g l A c gap (hl0.out.below hb); rwa [hP1, hn.out] at this)
    have T6 := hid fun (W : World) (hb : Below wr.heap.size wr W) => (show Calls Try.prog 20 #[.slice B m.length d, .int .i64 gap] W (RetLE W P2 k2) from by have := GPar_g m B d gap (hq.below hb); rwa [hP2] at this)
    have HW := Below.refl wr.heap.size wr
    clear hM hO hA hin2 hs hml hq hS1 hS2 hC1 hC2 hg1 hg2 hP1 hP2 hl0
    generalize m.length = mn at *
    go_wp2_with fail
    refine (T1.out _ HB).mono ?_
    rintro e w1 ⟨v1, rfl, z1, hb⟩
    replace HB := bel_step HB hb
    replace HW := bel_step HW hb
    clear hb T1
    go_wp2_with fail
    refine (T2.out _ HW).mono ?_
    rintro e w2 ⟨v2, rfl, z2, hb⟩
    replace HB := bel_step HB hb
    replace HW := bel_step HW hb
    replace z1 := z1.below hb
    clear hb T2
    go_wp2_with fail
    refine (T3.out _ HB).mono ?_
    rintro e w3 ⟨v3, rfl, z3, hb⟩
    replace HB := bel_step HB hb
    replace HW := bel_step HW hb
    replace z1 := z1.below hb
    replace z2 := z2.below hb
    clear hb T3
    go_wp2_with fail
    refine (T4.out _ HW).mono ?_
    rintro e w4 ⟨v4, rfl, z4, hb⟩
    replace HB := bel_step HB hb
    replace HW := bel_step HW hb
    replace z1 := z1.below hb
    replace z2 := z2.below hb
    replace z3 := z3.below hb
    clear hb T4
    go_wp2_with fail
    refine (T5.out _ HB).mono ?_
    rintro e w5 ⟨v5, rfl, z5, hb⟩
    replace HB := bel_step HB hb
    replace HW := bel_step HW hb
    replace z1 := z1.below hb
    replace z2 := z2.below hb
    replace z3 := z3.below hb
    replace z4 := z4.below hb
    clear hb T5
    go_wp2_with fail
    refine (T6.out _ HW).mono ?_
    rintro e w6 ⟨v6, rfl, z6, hb⟩
    replace HB := bel_step HB hb
    replace z1 := z1.below hb
    replace z2 := z2.below hb
    replace z3 := z3.below hb
    replace z4 := z4.below hb
    replace z5 := z5.below hb
    clear hb T6 HW
    by_cases hf2 : f2 = 3
    ·clear hall z1 z2 z3 z4 z5 z6
     go_wp2_with fail
     refine (examples_ok _).mono ?_
     rintro e w8 ⟨rfl, hb⟩
     replace HB := bel_step HB hb
     clear hb
     go_wp2
     go_ret
     exact ⟨rfl, HB⟩
    by_cases hg2 : g2 = 3
    ·clear hall z1 z2 z3 z4 z5 z6
     go_wp2_with fail
     refine (examples_ok _).mono ?_
     rintro e w8 ⟨rfl, hb⟩
     replace HB := bel_step HB hb
     clear hb
     go_wp2
     go_ret
     exact ⟨rfl, HB⟩
    obtain ⟨rfl, rfl, rfl, rfl, rfl, rfl, rfl⟩ := hall.out hf2 hg2
    clear hall
    go_wp2_with fail
    refine (ints_same a1 _ _ z1 z2).mono ?_
    rintro e w7 ⟨rfl, hb⟩
    replace HB := bel_step HB hb
    replace z3 := z3.below hb
    replace z4 := z4.below hb
    replace z5 := z5.below hb
    replace z6 := z6.below hb
    clear hb z1 z2
    go_wp2_with fail
    refine (lists_same C1 _ _ z3 z4).mono ?_
    rintro e w9 ⟨rfl, hb⟩
    replace HB := bel_step HB hb
    replace z5 := z5.below hb
    replace z6 := z6.below hb
    clear hb z3 z4
    go_wp2_with fail
    refine (lists_same P1 _ _ z5 z6).mono ?_
    rintro e w10 ⟨rfl, hb⟩
    replace HB := bel_step HB hb
    clear hb z5 z6
    go_wp2_with fail
    refine (examples_ok _).mono ?_
    rintro e w8 ⟨rfl, hb⟩
    replace HB := bel_step HB hb
    clear hb
    go_wp2
    go_ret
    exact ⟨rfl, HB⟩
 ·have hbi : (60 : Int) < (n : Int) := by omega
  rw [hn]
  clear hl hn
  go_enter Try.func8, Try.ntmps8
  go_wp2_with fail
  refine (examples_ok _).mono ?_
  rintro e w8 ⟨rfl, hb⟩
  replace HB := bel_step HB hb
  clear hb
  go_wp2
  go_ret
  exact ⟨rfl, HB⟩
end Go.Proofs.Ytjdgjhaggpahkaa
