/- Tables: the example of the chapter holds. Conditions: none. -/
import Derived.Test.YtjfgklhifhaaoaaZTw24
import Derived.Test.YtjfgklhifhaaoaaZTw26
import Derived.Test.YtjfgklhifhaaoaaZTw12
import Derived.Test.YtjfgklhifhaaoaaZTw7
import Derived.Test.YtjfgklhifhaaoaaZTw5
import Derived.Test.YtjfgklhifhaaoaaZPC
set_option linter.unusedVariables false
set_option linter.unusedSimpArgs false
namespace Go.Proofs.Ytjfgklhifhaaoaa
open Go.RowKit
def exLc : List Value := [.bool false, .int .i64 0, .int .i64 1, .int .i64 0, .int .i64 10, .bool false, .int .i64 3, .int .i64 1, .int .i64 0, .int .i64 10, .bool true, .int .i64 0, .int .i64 1, .int .i64 0, .int .i64 4, .bool true, .int .i64 4, .int .i64 1, .int .i64 0, .int .i64 4, .bool true, .int .i64 9, .int .i64 1, .int .i64 0, .int .i64 4]
def exCc : List Value := [.int .i64 0, .int .i64 0, .int .i64 1, .int .i64 1, .int .i64 1, .int .i64 1, .int .i64 3, .int .i64 2, .int .i64 0, .int .i64 1, .int .i64 1, .int .i64 1, .int .i64 5, .int .i64 1, .int .i64 4, .int .i64 2]
def ExD (u : World) (e : Ending) (w' : World) : Prop := ∃ A c, e = .returned (.tuple #[.agg #[.int .i64 10, .int .i64 4, .slice A 40 c], .int .i64 0]) ∧ BoK.Rd w' A c exM.d ∧ Below u.heap.size u w'
def ExW (u : World) (e : Ending) (w' : World) : Prop := ∃ A c, e = .returned (.tuple #[.agg #[.int .i64 10, .int .i64 4, .slice A 40 c], .int .i64 0]) ∧ BoK.Rd w' A c (List.replicate 40 false) ∧ Below u.heap.size u w'
def ExR (u : World) (e : Ending) (w' : World) : Prop := ∃ A c, e = .returned (.tuple #[.slice A 5 c, .int .i64 0]) ∧ RuK.Rd w' A c exL ∧ Below u.heap.size u w'
def ExG (u : World) (e : Ending) (w' : World) : Prop := ∃ A c, e = .returned (.tuple #[.agg #[.int .i64 1, .int .i64 2, .slice A 2 c], .int .i64 0]) ∧ CeK.Rd w' A c exC ∧ Below u.heap.size u w'
def ExN (u : World) (e : Ending) (w' : World) : Prop := e = .returned (.tuple #[.int .i64 1, .int .i64 0]) ∧ Below u.heap.size u w'
theorem exD_g (A B : Option Addr) (a b : Nat) {u : World} (h1 : InK.Rd u A a [3, 4]) (h2 : InK.Rd u B b [2]) : Calls Try.prog 6 #[.slice A 2 a, .slice B 1 b, .int .i64 1] u (ExD u) := by
 have := TDraw_g [3, 4] [2] A B a b 1 h1 h2 (by decide)
 rw [ex_draw] at this
 exact this
theorem exR_g (A : Option Addr) (a : Nat) {u : World} (h : BoK.Rd u A a exM.d) : Calls Try.prog 8 #[.agg #[.int .i64 10, .int .i64 4, .slice A 40 a], .int .i64 3] u (ExR u) := by
 have := TRul_g exM A a 3 h
 rw [ex_rules] at this
 exact this
theorem exG_g (A : Option Addr) (a : Nat) {u : World} (h : RuK.Rd u A a exL) : Calls Try.prog 9 #[.slice A 5 a] u (ExG u) := by
 have := TGrid_g exL A a h
 rw [ex_grid] at this
 exact this
theorem exN_g (A : Option Addr) (a : Nat) {u : World} (h : CeK.Rd u A a exC) : Calls Try.prog 13 #[.agg #[.int .i64 1, .int .i64 2, .slice A 2 a], .agg #[.int .i64 5, .int .i64 2]] u (ExN u) := by
 have := TLoc_g 1 2 exC A a 5 2 h
 rw [ex_loc] at this
 exact this
theorem exW_g (A B : Option Addr) (a b : Nat) {u : World} (h : BoK.Rd u A a exM.d) (h2 : RuK.Rd u B b exL) : Calls Try.prog 10 #[.agg #[.int .i64 10, .int .i64 4, .slice A 40 a], .slice B 5 b] u (ExW u) := by
 have := TWit_g exM A a exL B b h h2
 rw [ex_without] at this
 exact this
theorem exL_g (A B : Option Addr) (a b : Nat) {u : World} (h : RuK.Rd u A a exL) (h2 : RuK.Rd u B b exL) : Calls Try.prog 14 #[.slice A 5 a, .slice B 5 b] u (RetB u true) := by
 have := Lines_g exL exL A B a b h h2
 rw [decide_eq_true rfl] at this
 exact this
theorem exS_g (A B : Option Addr) (a b : Nat) {u : World} (h : CeK.Rd u A a exC) (h2 : CeK.Rd u B b exC) : Calls Try.prog 11 #[.agg #[.int .i64 1, .int .i64 2, .slice A 2 a], .agg #[.int .i64 1, .int .i64 2, .slice B 2 b]] u (RetB u true) := by
 have := Same_g 1 2 1 2 exC exC A B a b h h2
 rw [decide_eq_true ⟨rfl, rfl, rfl⟩] at this
 exact this
theorem exO_g (A : Option Addr) (a : Nat) {u : World} (h : BoK.Rd u A a (List.replicate 40 false)) : Calls Try.prog 12 #[.slice A 40 a] u (RetI u 0) := by
 have := Weight_g _ A a h (by decide)
 exact this
set_option maxRecDepth 100000 in
set_option maxHeartbeats 8000000 in
theorem alive_ok (w : World) : Calls Try.prog 5 #[] w (RetB w true) := by
 go_enter Try.func5, Try.ntmps5
 have h1 : InK.Rd ((w.alloc (.cells #[.int .i64 3, .int .i64 4] 3)).alloc (.cells #[.int .i64 2] 3)) (some ⟨w.heap.size, 0, none⟩) 2 [3, 4] :=
  (Knd.Rd.of_rng InKo (l := [3, 4]) (rng_alloc (w := w) (cs := [.int .i64 3, .int .i64 4]) (t := 3)) (by simp) (Nat.le_refl _) (by simp)).below ((Below.refl _ _).alloc (Nat.le_refl _) _)
 have h2 : InK.Rd ((w.alloc (.cells #[.int .i64 3, .int .i64 4] 3)).alloc (.cells #[.int .i64 2] 3)) (some ⟨w.heap.size + 1, 0, none⟩) 1 [2] := by
  have := Knd.Rd.of_rng InKo (l := [2]) (rng_alloc (w := w.alloc (.cells #[.int .i64 3, .int .i64 4] 3)) (cs := [.int .i64 2]) (t := 3)) (by simp) (Nat.le_refl _) (by simp)
  rwa [World.size_alloc] at this
 have H1 := hid (exD_g _ _ _ _ h1 h2)
 have hb0 : Below w.heap.size w ((w.alloc (.cells #[.int .i64 3, .int .i64 4] 3)).alloc (.cells #[.int .i64 2] 3)) := ((Below.refl _ _).alloc (Nat.le_refl _) _).alloc (by simp) _
 clear h1 h2
 go_wp2_with fail
 refine H1.out.mono ?_
 rintro e w1 ⟨A, c, rfl, hm, hv⟩
 have HB := bel_step hb0 hv
 clear H1 hv hb0
 go_upto_region 2 with fail
 refine enterR (P := fun u => Code.wp _ _ _ _ u) (c := [.int .i64 10, .int .i64 4, .slice A 40 c]) ?_
 intro x1 hbx r0 z0 hs0
 replace HB := bel_step HB hbx
 have m0 : x1.cell? ⟨w1.heap.size, 0, none⟩ = some (.int .i64 10) := r0 0 _ rfl
 have m1 : x1.cell? ⟨w1.heap.size, 1, none⟩ = some (.int .i64 4) := r0 1 _ rfl
 have m2 : x1.cell? ⟨w1.heap.size, 2, none⟩ = some (.slice A 40 c) := r0 2 _ rfl
 replace hm := hm.below hbx
 have H2 := hid (exR_g A c hm)
 clear hbx r0 z0 hs0
 go_wp2_with fail
 refine H2.out.mono ?_
 rintro e w2 ⟨B, d, rfl, hl, hv⟩
 replace HB := bel_step HB hv
 replace hm := hm.below hv
 replace m0 := keep_cell hv m0
 replace m1 := keep_cell hv m1
 replace m2 := keep_cell hv m2
 have H3 := hid (exG_g B d hl)
 clear H2 hv
 go_wp2_with fail
 refine H3.out.mono ?_
 rintro e w3 ⟨A2, c2, rfl, ht, hv⟩
 replace HB := bel_step HB hv
 replace hm := hm.below hv
 replace hl := hl.below hv
 replace m0 := keep_cell hv m0
 replace m1 := keep_cell hv m1
 replace m2 := keep_cell hv m2
 clear H3 hv
 go_upto_region 4 with fail
 refine enterR (P := fun u => Code.wp _ _ _ _ u) (c := [.int .i64 1, .int .i64 2, .slice A2 2 c2]) ?_
 intro x2 hv r0 z0 hs0
 replace HB := bel_step HB hv
 replace hm := hm.below hv
 replace hl := hl.below hv
 replace ht := ht.below hv
 replace m0 := keep_cell hv m0
 replace m1 := keep_cell hv m1
 replace m2 := keep_cell hv m2
 have n0 : x2.cell? ⟨w3.heap.size, 0, none⟩ = some (.int .i64 1) := r0 0 _ rfl
 have n1 : x2.cell? ⟨w3.heap.size, 1, none⟩ = some (.int .i64 2) := r0 1 _ rfl
 have n2 : x2.cell? ⟨w3.heap.size, 2, none⟩ = some (.slice A2 2 c2) := r0 2 _ rfl
 have H4 := hid (exN_g A2 c2 ht)
 clear hv r0 z0 hs0
 go_wp2_with fail
 refine H4.out.mono ?_
 rintro e w4 ⟨rfl, hv⟩
 replace HB := bel_step HB hv
 replace hm := hm.below hv
 replace hl := hl.below hv
 replace ht := ht.below hv
 replace m0 := keep_cell hv m0
 replace m1 := keep_cell hv m1
 replace m2 := keep_cell hv m2
 replace n0 := keep_cell hv n0
 replace n1 := keep_cell hv n1
 replace n2 := keep_cell hv n2
 have H5 := hid (exW_g A B c d hm hl)
 clear H4 hv
 go_wp2_with fail
 refine H5.out.mono ?_
 rintro e w5 ⟨A3, c3, rfl, hw, hv⟩
 replace HB := bel_step HB hv
 replace hl := hl.below hv
 replace ht := ht.below hv
 replace m0 := keep_cell hv m0
 replace m1 := keep_cell hv m1
 replace n0 := keep_cell hv n0
 replace n1 := keep_cell hv n1
 replace n2 := keep_cell hv n2
 clear H5 hv hm m2
 go_upto_region 6 with fail
 refine enterR (P := fun u => Code.wp _ _ _ _ u) (c := [.int .i64 10, .int .i64 4, .slice A3 40 c3]) ?_
 intro x3 hv r0 z0 hs0
 replace HB := bel_step HB hv
 replace hl := hl.below hv
 replace ht := ht.below hv
 replace hw := hw.below hv
 replace m0 := keep_cell hv m0
 replace m1 := keep_cell hv m1
 replace n0 := keep_cell hv n0
 replace n1 := keep_cell hv n1
 replace n2 := keep_cell hv n2
 have q2 : x3.cell? ⟨w5.heap.size, 2, none⟩ = some (.slice A3 40 c3) := r0 2 _ rfl
 clear hv r0 z0 hs0
 go_upto_region 9 with fail
 refine enterR (P := fun u => Code.wp _ _ _ _ u) (c := exLc) ?_
 intro x4 hv r0 z0 hs0
 replace HB := bel_step HB hv
 replace hl := hl.below hv
 replace ht := ht.below hv
 replace hw := hw.below hv
 replace n0 := keep_cell hv n0
 replace n1 := keep_cell hv n1
 replace n2 := keep_cell hv n2
 replace q2 := keep_cell hv q2
 have hl2 : RuK.Rd x4 (some ⟨x3.heap.size, 0, none⟩) 5 exL := Knd.Rd.of_rng RuKo r0 z0.lt (Nat.le_refl _) (by omega)
 clear hv r0 z0 hs0 m0 m1
 go_upto_region 10 with fail
 refine enterR (P := fun u => Code.wp _ _ _ _ u) (c := exCc) ?_
 intro x5 hv r0 z0 hs0
 replace HB := bel_step HB hv
 replace hl := hl.below hv
 replace hl2 := hl2.below hv
 replace ht := ht.below hv
 replace hw := hw.below hv
 replace n0 := keep_cell hv n0
 replace n1 := keep_cell hv n1
 replace n2 := keep_cell hv n2
 replace q2 := keep_cell hv q2
 have ht2 : CeK.Rd x5 (some ⟨x4.heap.size, 0, none⟩) 2 exC := Knd.Rd.of_rng CeKo r0 z0.lt (Nat.le_refl _) (by omega)
 have H6 := hid (exL_g _ _ _ _ hl hl2)
 clear hv r0 z0 hs0 hl hl2
 go_wp2_with fail
 refine H6.out.mono ?_
 rintro e w6 ⟨rfl, hv⟩
 replace HB := bel_step HB hv
 replace ht := ht.below hv
 replace ht2 := ht2.below hv
 replace hw := hw.below hv
 replace n0 := keep_cell hv n0
 replace n1 := keep_cell hv n1
 replace n2 := keep_cell hv n2
 replace q2 := keep_cell hv q2
 have H7 := hid (exS_g _ _ _ _ ht ht2)
 clear H6 hv ht ht2
 go_wp2_with fail
 refine H7.out.mono ?_
 rintro e w7 ⟨rfl, hv⟩
 replace HB := bel_step HB hv
 replace hw := hw.below hv
 replace q2 := keep_cell hv q2
 have H8 := hid (exO_g _ _ hw)
 clear H7 hv hw n0 n1 n2
 go_wp2_with fail
 refine H8.out.mono ?_
 rintro e w8 ⟨rfl, hv⟩
 replace HB := bel_step HB hv
 replace q2 := keep_cell hv q2
 clear H8 hv
 go_wp2
 go_ret
 exact ⟨rfl, HB⟩
end Go.Proofs.Ytjfgklhifhaaoaa
