/- Reading order: the examples hold. Conditions: none. -/
import Derived.Test.YtjdgjhaggpahkaaZRe1
set_option linter.unusedVariables false
set_option linter.unusedSimpArgs false
namespace Go.Proofs.Ytjdgjhaggpahkaa
open Go.RowKit Go.Deep
def ex1 : List Bx := [⟨20, 0, 10, 5⟩, ⟨0, 0, 10, 5⟩, ⟨0, 10, 30, 5⟩]
def ex2 : List Bx := [⟨30, 0, 5, 10⟩, ⟨20, 5, 5, 10⟩, ⟨10, 11, 5, 9⟩]
def ex3 : List Bx := [⟨0, 0, 10, 5⟩, ⟨8, 10, 10, 5⟩, ⟨25, 0, 5, 5⟩]
def ex4 : List Bx := [⟨0, 20, 5, 5⟩, ⟨0, 0, 5, 5⟩, ⟨0, 8, 5, 5⟩]
theorem ex1_s : sortE ex1 = ([1, 0, 2], 0) := by decide +kernel
theorem ex2_s : sortE ex2 = ([], 31) := by decide +kernel
theorem ex3_k : chkB ex3 3 = 0 := by decide +kernel
theorem ex3_c : colC ex3 3 = [[0, 1], [2]] := by
 rw [colC_of ex3_k (colG_split ex3 3 (O := [0, 1, 2]) (List.Perm.refl _) (by unfold SrtX; decide +kernel)), ← insAll_all]
 decide +kernel
theorem ex4_p : parE ex4 3 = ([[1, 2], [0]], 0) := by
 unfold parE
 rw [← insAll_all]
 decide +kernel
def bxCells (l : List Bx) : List Value := l.flatMap fun b => [.int .i64 b.x, .int .i64 b.y, .int .i64 b.w, .int .i64 b.h]
theorem qb_lit (a b c : Bx) (w : World) {W : World} (r : W.rangeAt w.heap.size 0 (bxCells [a, b, c])) (hlt : w.heap.size < W.heap.size) : Qb W (some ⟨w.heap.size, 0, none⟩) 3 [a, b, c] := by
 refine ⟨Nat.le_refl _, by omega, fun _ => ⟨w.heap.size, 0, rfl, hlt, fun j hj => ?_⟩⟩
 match j, hj with
 | 0, _ => exact ⟨r 0 _ rfl, r 1 _ rfl, r 2 _ rfl, r 3 _ rfl⟩
 | 1, _ => exact ⟨r 4 _ rfl, r 5 _ rfl, r 6 _ rfl, r 7 _ rfl⟩
 | 2, _ => exact ⟨r 8 _ rfl, r 9 _ rfl, r 10 _ rfl, r 11 _ rfl⟩
 | j + 3, h => exact absurd h (by simp)
theorem zs_lit (l : List Nat) (w : World) {W : World} (r : W.rangeAt w.heap.size 0 (l.map intV)) (hlt : w.heap.size < W.heap.size) (hl : l.length ≤ 1000) : Zs W (.slice (some ⟨w.heap.size, 0, none⟩) l.length l.length) l :=
 ⟨_, _, rfl, Nat.le_refl _, by omega, fun _ => ⟨w.heap.size, 0, rfl, hlt, fun j hj => by
  rw [Nat.zero_add]
  have := r j (intV l[j]) (by simp [hj])
  rwa [Nat.zero_add] at this⟩⟩
theorem ints_same (l : List Nat) (v u : Value) {w : World} (hl : Zs w v l) (hm : Zs w u l) : Calls Try.prog 16 #[v, u] w (RetB w true) := by
 have := Lints_g l l v u hl hm
 rwa [beq_self_eq_true] at this
set_option maxRecDepth 100000 in
set_option maxHeartbeats 16000000 in
theorem examples_ok (w : World) : Calls Try.prog 11 #[] w (RetB w true) := by
 have H1 := hid fun (W : World) (A : Option Addr) (c : Nat) (h : Qb W A c ex1) => (show Calls Try.prog 12 #[.slice A 3 c] W (RetOE W ([1, 0, 2], 0)) from by rw [← ex1_s]; exact GSort_g ex1 A c h)
 have H2 := hid fun (W : World) (A : Option Addr) (c : Nat) (h : Qb W A c ex2) => (show Calls Try.prog 12 #[.slice A 3 c] W (RetOE W ([], 31)) from by rw [← ex2_s]; exact GSort_g ex2 A c h)
 have H3 := hid fun (W : World) (A : Option Addr) (c : Nat) (h : Qb W A c ex3) => (show Calls Try.prog 17 #[.slice A 3 c, .int .i64 3] W (RetLE W [[0, 1], [2]] 0) from by have := GCol_c ex3 A c 3 h; rwa [ex3_c, ex3_k] at this)
 have H4 := hid fun (W : World) (A : Option Addr) (c : Nat) (h : Qb W A c ex4) => (show Calls Try.prog 20 #[.slice A 3 c, .int .i64 3] W (RetLE W [[1, 2], [0]] 0) from by have := GPar_g ex4 A c 3 h; rwa [ex4_p] at this)
 have HB := Below.refl w.heap.size w
 go_enter Try.func11, Try.ntmps11
 go_wp2_with fail
 refine (Lbox_g _ _ _ _ w).mono ?_
 rintro e w1 ⟨rfl, hb1⟩
 go_wp2_with fail
 refine (Lbox_g _ _ _ _ w1).mono ?_
 rintro e w2 ⟨rfl, hb2⟩
 go_wp2_with fail
 refine (Lbox_g _ _ _ _ w2).mono ?_
 rintro e w3 ⟨rfl, hb3⟩
 go_wp2_with fail
 have hbl_ : Below w3.heap.size w3 (w3.alloc (.cells #[.int .i64 20, .int .i64 0, .int .i64 10, .int .i64 5, .int .i64 0, .int .i64 0, .int .i64 10, .int .i64 5, .int .i64 0, .int .i64 10, .int .i64 30, .int .i64 5] 31)) := (Below.refl _ _).alloc (Nat.le_refl _) _
 have r_ := rng_alloc (w := w3) (cs := bxCells ex1) (t := 31)
 have q_ := qb_lit ⟨20, 0, 10, 5⟩ ⟨0, 0, 10, 5⟩ ⟨0, 10, 30, 5⟩ w3 r_ (by simp)
 refine (H1.out _ _ _ q_).mono ?_
 rintro e w4 ⟨v1, rfl, z1, hb4⟩
 replace HB := bel_step HB (bel_step hb1 (bel_step hb2 (bel_step hb3 (bel_step hbl_ hb4))))
 clear hb1 hb2 hb3 hb4 hbl_ r_ q_ H1
 go_wp2_with fail
 refine (Lbox_g _ _ _ _ w4).mono ?_
 rintro e w5 ⟨rfl, hb1⟩
 go_wp2_with fail
 refine (Lbox_g _ _ _ _ w5).mono ?_
 rintro e w6 ⟨rfl, hb2⟩
 go_wp2_with fail
 refine (Lbox_g _ _ _ _ w6).mono ?_
 rintro e w7 ⟨rfl, hb3⟩
 go_wp2_with fail
 have hbl_ : Below w7.heap.size w7 (w7.alloc (.cells #[.int .i64 30, .int .i64 0, .int .i64 5, .int .i64 10, .int .i64 20, .int .i64 5, .int .i64 5, .int .i64 10, .int .i64 10, .int .i64 11, .int .i64 5, .int .i64 9] 31)) := (Below.refl _ _).alloc (Nat.le_refl _) _
 have r_ := rng_alloc (w := w7) (cs := bxCells ex2) (t := 31)
 have q_ := qb_lit ⟨30, 0, 5, 10⟩ ⟨20, 5, 5, 10⟩ ⟨10, 11, 5, 9⟩ w7 r_ (by simp)
 refine (H2.out _ _ _ q_).mono ?_
 rintro e w8 ⟨v2, rfl, z2, hb4⟩
 replace z1 := z1.below (bel_step hb1 (bel_step hb2 (bel_step hb3 (bel_step hbl_ hb4))))
 replace HB := bel_step HB (bel_step hb1 (bel_step hb2 (bel_step hb3 (bel_step hbl_ hb4))))
 clear hb1 hb2 hb3 hb4 hbl_ r_ q_ H2 z2
 go_wp2_with fail
 refine (Lbox_g _ _ _ _ w8).mono ?_
 rintro e w9 ⟨rfl, hb1⟩
 go_wp2_with fail
 refine (Lbox_g _ _ _ _ w9).mono ?_
 rintro e w10 ⟨rfl, hb2⟩
 go_wp2_with fail
 refine (Lbox_g _ _ _ _ w10).mono ?_
 rintro e w11 ⟨rfl, hb3⟩
 go_wp2_with fail
 have hbl_ : Below w11.heap.size w11 (w11.alloc (.cells #[.int .i64 0, .int .i64 0, .int .i64 10, .int .i64 5, .int .i64 8, .int .i64 10, .int .i64 10, .int .i64 5, .int .i64 25, .int .i64 0, .int .i64 5, .int .i64 5] 31)) := (Below.refl _ _).alloc (Nat.le_refl _) _
 have r_ := rng_alloc (w := w11) (cs := bxCells ex3) (t := 31)
 have q_ := qb_lit ⟨0, 0, 10, 5⟩ ⟨8, 10, 10, 5⟩ ⟨25, 0, 5, 5⟩ w11 r_ (by simp)
 refine (H3.out _ _ _ q_).mono ?_
 rintro e w12 ⟨v3, rfl, z3, hb4⟩
 replace z1 := z1.below (bel_step hb1 (bel_step hb2 (bel_step hb3 (bel_step hbl_ hb4))))
 replace HB := bel_step HB (bel_step hb1 (bel_step hb2 (bel_step hb3 (bel_step hbl_ hb4))))
 clear hb1 hb2 hb3 hb4 hbl_ r_ q_ H3
 go_wp2_with fail
 refine (Lbox_g _ _ _ _ w12).mono ?_
 rintro e w13 ⟨rfl, hb1⟩
 go_wp2_with fail
 refine (Lbox_g _ _ _ _ w13).mono ?_
 rintro e w14 ⟨rfl, hb2⟩
 go_wp2_with fail
 refine (Lbox_g _ _ _ _ w14).mono ?_
 rintro e w15 ⟨rfl, hb3⟩
 go_wp2_with fail
 have hbl_ : Below w15.heap.size w15 (w15.alloc (.cells #[.int .i64 0, .int .i64 20, .int .i64 5, .int .i64 5, .int .i64 0, .int .i64 0, .int .i64 5, .int .i64 5, .int .i64 0, .int .i64 8, .int .i64 5, .int .i64 5] 31)) := (Below.refl _ _).alloc (Nat.le_refl _) _
 have r_ := rng_alloc (w := w15) (cs := bxCells ex4) (t := 31)
 have q_ := qb_lit ⟨0, 20, 5, 5⟩ ⟨0, 0, 5, 5⟩ ⟨0, 8, 5, 5⟩ w15 r_ (by simp)
 refine (H4.out _ _ _ q_).mono ?_
 rintro e w16 ⟨v4, rfl, z4, hb4⟩
 replace z1 := z1.below (bel_step hb1 (bel_step hb2 (bel_step hb3 (bel_step hbl_ hb4))))
 replace z3 := z3.below (bel_step hb1 (bel_step hb2 (bel_step hb3 (bel_step hbl_ hb4))))
 replace HB := bel_step HB (bel_step hb1 (bel_step hb2 (bel_step hb3 (bel_step hbl_ hb4))))
 clear hb1 hb2 hb3 hb4 hbl_ r_ q_ H4
 obtain ⟨A3, c3, rfl, -, -⟩ := z3.form
 obtain ⟨A4, c4, rfl, -, -⟩ := z4.form
 obtain ⟨g3, o3, u30, rfl, e30, y30⟩ := z3.at_ (j := 0) (by decide)
 obtain ⟨_, _, u31, hA, e31, y31⟩ := z3.at_ (j := 1) (by decide)
 injection hA with hA
 injection hA with hA1 hA2 _
 subst hA1 hA2
 obtain ⟨g4, o4, u40, rfl, e40, y40⟩ := z4.at_ (j := 0) (by decide)
 obtain ⟨_, _, u41, hA, e41, y41⟩ := z4.at_ (j := 1) (by decide)
 injection hA with hA
 injection hA with hA1 hA2 _
 subst hA1 hA2
 replace e30 : w16.cell? ⟨g3, o3, none⟩ = some u30 := e30
 replace e40 : w16.cell? ⟨g4, o4, none⟩ = some u40 := e40
 clear z3 z4
 go_wp2_with fail
 have hbl_ : Below w16.heap.size w16 (w16.alloc (.cells #[.int .i64 1, .int .i64 0, .int .i64 2] 3)) := (Below.refl _ _).alloc (Nat.le_refl _) _
 have r_ := rng_alloc (w := w16) (cs := List.map intV [1, 0, 2]) (t := 3)
 have q_ := zs_lit [1, 0, 2] w16 r_ (by simp) (by decide)
 refine (ints_same [1, 0, 2] _ _ (z1.below hbl_) q_).mono ?_
 rintro e w17 ⟨rfl, hb4⟩
 clear r_ q_ z1
 replace hb4 := bel_step hbl_ hb4
 replace HB := bel_step HB hb4
 clear hbl_
 replace e30 := keep_cell hb4 e30
 replace e31 := keep_cell hb4 e31
 replace e40 := keep_cell hb4 e40
 replace e41 := keep_cell hb4 e41
 replace y30 := y30.below hb4
 replace y31 := y31.below hb4
 replace y40 := y40.below hb4
 replace y41 := y41.below hb4
 clear hb4
 go_wp2_with fail
 have hbl_ : Below w17.heap.size w17 (w17.alloc (.cells #[.int .i64 0, .int .i64 1] 3)) := (Below.refl _ _).alloc (Nat.le_refl _) _
 have r_ := rng_alloc (w := w17) (cs := List.map intV [0, 1]) (t := 3)
 have q_ := zs_lit [0, 1] w17 r_ (by simp) (by decide)
 refine (ints_same [0, 1] _ _ (y30.below hbl_) q_).mono ?_
 rintro e w18 ⟨rfl, hb4⟩
 clear r_ q_ y30
 replace hb4 := bel_step hbl_ hb4
 replace HB := bel_step HB hb4
 clear hbl_
 replace e31 := keep_cell hb4 e31
 replace e40 := keep_cell hb4 e40
 replace e41 := keep_cell hb4 e41
 replace y31 := y31.below hb4
 replace y40 := y40.below hb4
 replace y41 := y41.below hb4
 clear hb4 e30
 go_wp2_with fail
 have hbl_ : Below w18.heap.size w18 (w18.alloc (.cells #[.int .i64 2] 3)) := (Below.refl _ _).alloc (Nat.le_refl _) _
 have r_ := rng_alloc (w := w18) (cs := List.map intV [2]) (t := 3)
 have q_ := zs_lit [2] w18 r_ (by simp) (by decide)
 refine (ints_same [2] _ _ (y31.below hbl_) q_).mono ?_
 rintro e w19 ⟨rfl, hb4⟩
 clear r_ q_ y31
 replace hb4 := bel_step hbl_ hb4
 replace HB := bel_step HB hb4
 clear hbl_
 replace e40 := keep_cell hb4 e40
 replace e41 := keep_cell hb4 e41
 replace y40 := y40.below hb4
 replace y41 := y41.below hb4
 clear hb4 e31
 go_wp2_with fail
 have hbl_ : Below w19.heap.size w19 (w19.alloc (.cells #[.int .i64 1, .int .i64 2] 3)) := (Below.refl _ _).alloc (Nat.le_refl _) _
 have r_ := rng_alloc (w := w19) (cs := List.map intV [1, 2]) (t := 3)
 have q_ := zs_lit [1, 2] w19 r_ (by simp) (by decide)
 refine (ints_same [1, 2] _ _ (y40.below hbl_) q_).mono ?_
 rintro e w20 ⟨rfl, hb4⟩
 clear r_ q_ y40
 replace hb4 := bel_step hbl_ hb4
 replace HB := bel_step HB hb4
 clear hbl_
 replace e41 := keep_cell hb4 e41
 replace y41 := y41.below hb4
 clear hb4 e40
 go_wp2_with fail
 have hbl_ : Below w20.heap.size w20 (w20.alloc (.cells #[.int .i64 0] 3)) := (Below.refl _ _).alloc (Nat.le_refl _) _
 have r_ := rng_alloc (w := w20) (cs := List.map intV [0]) (t := 3)
 have q_ := zs_lit [0] w20 r_ (by simp) (by decide)
 refine (ints_same [0] _ _ (y41.below hbl_) q_).mono ?_
 rintro e w21 ⟨rfl, hb4⟩
 clear r_ q_ y41
 replace hb4 := bel_step hbl_ hb4
 replace HB := bel_step HB hb4
 clear hbl_
 go_wp2_with fail
 go_ret
 exact ⟨rfl, HB⟩
end Go.Proofs.Ytjdgjhaggpahkaa
