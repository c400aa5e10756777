/- Tables: pixels that are painted in a block. Conditions: none. -/
import Derived.Test.YtjfgklhifhaaoaaZTw2
set_option linter.unusedVariables false
set_option linter.unusedSimpArgs false
namespace Go.Proofs.Ytjfgklhifhaaoaa
open Go.RowKit
def bv (b : Bool) : Value := .bool b
/-- block g holds the pixels d, and may be written -/
structure PxA (w : World) (g : Nat) (d : List Bool) : Prop where
 r : w.rangeAt g 0 (d.map bv)
 z : Zn w g
/-- nothing but block g was changed; it holds the pixels d -/
structure PxR (w : World) (g : Nat) (d : List Bool) (w' : World) : Prop where
 gb : w.grownBy w' (some g)
 a : PxA w' g d
theorem PxA.below {w w' : World} {g : Nat} {d : List Bool} (h : PxA w g d) (hb : Below w.heap.size w w') : PxA w' g d := ⟨rng_below h.r hb, h.z.below hb⟩
theorem PxA.cell {w : World} {g : Nat} {d : List Bool} (h : PxA w g d) {j : Nat} (hj : j < d.length) : w.cell? ⟨g, j, none⟩ = some (.bool d[j]) := by
 have := h.r j (.bool d[j]) (by rw [List.getElem?_map, List.getElem?_eq_getElem hj]; rfl)
 rwa [Nat.zero_add] at this
theorem cell_set_ne {W : World} {g i j : Nat} {v : Value} (h : i ≠ j) : (W.setCell ⟨g, i, none⟩ v).cell? ⟨g, j, none⟩ = W.cell? ⟨g, j, none⟩ :=
 World.cell?_setCell_other _ _ _ _ (fun e => h (by injection e))
theorem PxA.set {w : World} {g : Nat} {d : List Bool} (h : PxA w g d) {j : Nat} (hj : j < d.length) (t : Bool) : PxA (w.setCell ⟨g, j, none⟩ (.bool t)) g (d.set j t) := by
 refine ⟨fun i v hv => ?_, h.z.set_⟩
 rw [Nat.zero_add]
 rw [List.getElem?_map, List.getElem?_set] at hv
 have hc := h.cell hj
 by_cases hi : j = i
 ·subst hi
  rw [if_pos rfl, if_pos hj] at hv
  obtain rfl := Option.some.inj hv
  exact at_set hc
 ·rw [if_neg hi] at hv
  have := h.r i v (by rw [List.getElem?_map]; exact hv)
  rw [Nat.zero_add] at this
  exact (cell_set_ne hi).trans this
theorem gb_below {w w' : World} {row : Option Nat} (h : Below w.heap.size w w') : w.grownBy w' row := ⟨h.os, h.tape, h.output, h.size, fun k hk _ => h.block k hk⟩
theorem gb_set {w : World} {g i : Nat} {v : Value} : w.grownBy (w.setCell ⟨g, i, none⟩ v) (some g) := by
 refine ⟨rfl, rfl, rfl, by simp, fun k hk hne => ?_⟩
 exact Below.heap_setCell w ⟨g, i, none⟩ v k (by simp; exact fun e => hne (by rw [e]))
theorem PxR.refl {w : World} {g : Nat} {d : List Bool} (h : PxA w g d) : PxR w g d w := ⟨World.grownBy.refl _ _, h⟩
theorem PxR.set {w w' : World} {g : Nat} {d : List Bool} (h : PxR w g d w') {j : Nat} (hj : j < d.length) (t : Bool) : PxR w g (d.set j t) (w'.setCell ⟨g, j, none⟩ (.bool t)) := ⟨h.gb.trans gb_set, h.a.set hj t⟩
theorem PxR.cast {w w' : World} {g : Nat} {d d' : List Bool} (h : PxR w g d w') (e : d = d') : PxR w g d' w' := e ▸ h
theorem PxR.step {a w w' : World} {g : Nat} {d : List Bool} (hb : Below a.heap.size a w) (h : PxR w g d w') : PxR a g d w' := ⟨(gb_below hb).trans h.gb, h.a⟩
theorem PxR.trans {a w w' : World} {g : Nat} {d d' : List Bool} (h0 : PxR a g d' w) (h : PxR w g d w') : PxR a g d w' := ⟨h0.gb.trans h.gb, h.a⟩
theorem PxR.keep {w w' : World} {g k o : Nat} {d : List Bool} {v : Value} (h : PxR w g d w') (hk : k ≠ g) (hc : w.cell? ⟨k, o, none⟩ = some v) : w'.cell? ⟨k, o, none⟩ = some v := h.gb.cell hc (fun e => hk (by injection e))
/-- what lies below the block stays -/
theorem PxR.below {w w' : World} {g B : Nat} {d : List Bool} (h : PxR w g d w') (hB : B ≤ g) (hw : B ≤ w.heap.size) : Below B w w' := ⟨h.gb.os, h.gb.tape, h.gb.output, h.gb.size, fun k hk => h.gb.block k (by omega) (fun e => by injection e; omega)⟩
theorem run_min2 {P : Program} (w : World) (ts : Array TypeId) (t : TypeId) (a b : Int) : (Builtin.min_ ts t #[.int .i64 a, .int .i64 b]).run P w = .ok (.int .i64 (min a b)) w := by
 have h : ∀ (x y : Int), (Builtin.min2 (.int .i64 x) (.int .i64 y)).run P w = .ok (.int .i64 (min x y)) w := fun x y => by
  simp only [Builtin.min2]
  split <;> simp <;> omega
 simp [Builtin.min_, Sem.run_bind, h]
theorem px_place {W H x y : Nat} (hx : x < W) (hy : y < H) : y * W + x < W * H := by
 have : (y + 1) * W ≤ H * W := Nat.mul_le_mul_right _ hy
 rw [Nat.add_mul, Nat.one_mul, Nat.mul_comm H] at this
 omega
set_option maxRecDepth 100000 in
set_option maxHeartbeats 4000000 in
theorem paint_n (W H X Y : Nat) (bw bh : Int) (d : List Bool) (g n c : Nat) (t : Bool) {w : World} (hd : d.length = W * H) (hn : d.length = n) (hW : W ≤ 4096) (hH : H ≤ 4096) (hX : X ≤ 1000000) (hY : Y ≤ 1000000) (hbw : -1000000 ≤ bw ∧ bw ≤ 1000000) (hbh : -1000000 ≤ bh ∧ bh ≤ 1000000) (hP : PxA w g d) :
  Calls Try.prog 18 #[.agg #[.int .i64 W, .int .i64 H, .slice (some ⟨g, 0, none⟩) n c], .agg #[.int .i64 X, .int .i64 Y, .int .i64 bw, .int .i64 bh], .bool t] w
   fun e w' => e = .returned (.tuple #[]) ∧ PxR w g (pntL d W X Y (min ((X : Int) + bw) W).toNat (min ((Y : Int) + bh) H).toNat t) w' := by
 obtain ⟨U, hU⟩ : ∃ U, (min ((X : Int) + bw) W).toNat = U := ⟨_, rfl⟩
 obtain ⟨V, hV⟩ : ∃ V, (min ((Y : Int) + bh) H).toNat = V := ⟨_, rfl⟩
 have hU1 := hid fun (x : Nat) => (show ((x : Int) < min ((X : Int) + bw) W ↔ x < U) from by omega)
 have hV1 := hid fun (y : Nat) => (show ((y : Int) < min ((Y : Int) + bh) H ↔ y < V) from by omega)
 have hUW : U ≤ W := by omega
 have hVH : V ≤ H := by omega
 have hwx : IntKind.i64.wrap ((X : Int) + bw) = (X : Int) + bw := by rw [IntKind.wrap_i64]; omega
 have hwy : IntKind.i64.wrap ((Y : Int) + bh) = (Y : Int) + bh := by rw [IntKind.wrap_i64]; omega
 have hmn := fun (a b : Int) (W : World) => run_min2 (P := Try.prog) W #[3, 3] 3 a b
 rw [hU, hV]
 have hg := hP.z.lt
 have h0 := hid (pntP_zero d W X Y U V t)
 have hrow := hid fun y x hx => pntP_row d W X Y U V t y x hx
 have hst := hid fun y => pntP_start d W X Y U V t y
 have hend := hid fun y hy => pntP_end d W X Y U V t y hy
 have hset := hid fun y x h1 h2 h3 h4 h5 => pntP_set d W X Y U V t y x h1 h2 h3 h4 h5
 have hlen := hid fun y x => (pntP_len d W X Y U V t y x).trans hd
 have hin := hid fun (x y : Nat) (hx : x < U) (hy : y < V) => px_place (W := W) (H := H) (x := x) (y := y) (by omega) (by omega)
 have hmul := hid fun (y : Nat) (hy : y < H) => (show y * W ≤ 4096 * 4096 from Nat.mul_le_mul (by omega) hW)
 have hnn := hid (hn.symm.trans hd)
 generalize pntL d W X Y U V t = D at *
 generalize pntP d W X Y U V t = Q at *
 clear hU hV hd hn
 go_enter Try.func18, Try.ntmps18
 go_upto_region 1 with fail
 refine enterR2 (P := fun u => Code.wp _ _ _ _ u) (c0 := [.int .i64 W, .int .i64 H, .slice (some ⟨g, 0, none⟩) n c]) (c1 := [.int .i64 X, .int .i64 Y, .int .i64 bw, .int .i64 bh]) ?_
 intro u HB r0 r1 zn0 zn1 hsz
 clear zn0 zn1
 have hP1 : PxR u g (Q Y 0) u := PxR.refl (by rw [h0.out]; exact hP.below HB)
 have hC := hid fun (W' : World) (D' : List Bool) (h : PxR u g D' W') => (show ((W'.cell? ⟨w.heap.size, 0, none⟩ = some (.int .i64 W) ∧ W'.cell? ⟨w.heap.size, 1, none⟩ = some (.int .i64 H)) ∧ W'.cell? ⟨w.heap.size, 2, none⟩ = some (.slice (some ⟨g, 0, none⟩) n c)) ∧ (W'.cell? ⟨w.heap.size + 1, 0, none⟩ = some (.int .i64 X) ∧ W'.cell? ⟨w.heap.size + 1, 1, none⟩ = some (.int .i64 Y)) ∧ (W'.cell? ⟨w.heap.size + 1, 2, none⟩ = some (.int .i64 bw) ∧ W'.cell? ⟨w.heap.size + 1, 3, none⟩ = some (.int .i64 bh)) from
  ⟨⟨⟨h.keep (by omega) (r0 0 _ rfl), h.keep (by omega) (r0 1 _ rfl)⟩, h.keep (by omega) (r0 2 _ rfl)⟩, ⟨h.keep (by omega) (r1 0 _ rfl), h.keep (by omega) (r1 1 _ rfl)⟩, ⟨h.keep (by omega) (r1 2 _ rfl), h.keep (by omega) (r1 3 _ rfl)⟩⟩)
 obtain ⟨⟨⟨c0, c1⟩, c2⟩, ⟨d0, d1⟩, d2, d3⟩ := hC.out u _ hP1
 clear r0 r1 hsz hP
 go_wp2
 clear c0 c1 c2 d0 d1 d2 d3
 go_loopw [6] (fun s6 wr => ∃ y : Nat, s6 = .int .i64 y ∧ Y ≤ y ∧ PxR u g (Q y 0) wr) (fun s6 _ => V - (intOf s6).toNat)
 case atStart => exact ⟨Y, rfl, Nat.le_refl _, hP1⟩
 case round =>
  clear hP1
  obtain ⟨y, rfl, hy, hR⟩ := hrel
  obtain ⟨⟨⟨c0, c1⟩, c2⟩, ⟨d0, d1⟩, d2, d3⟩ := hC.out wr _ hR
  by_cases hyv : y < V
  ·have hyi : (y : Int) < min ((Y : Int) + bh) H := (hV1.out y).2 hyv
   have hyH : y < H := by omega
   have hR1 : PxR u g (Q y X) wr := hR.cast (by rw [hst.out])
   clear hR
   go_wp2
   clear c0 c1 c2 d0 d1 d2 d3
   obtain ⟨w0, hw0⟩ : ∃ w0, w0 = wr := ⟨_, rfl⟩
   subst hw0
   go_loopw [7] (fun s7 wr => ∃ x : Nat, s7 = .int .i64 x ∧ X ≤ x ∧ PxR u g (Q y x) wr) (fun s7 _ => U - (intOf s7).toNat)
   case atStart => exact ⟨X, rfl, Nat.le_refl _, hR1⟩
   case round =>
    clear hR1
    obtain ⟨x, rfl, hx, hR⟩ := hrel
    obtain ⟨⟨⟨c0, c1⟩, c2⟩, ⟨d0, d1⟩, d2, d3⟩ := hC.out wr _ hR
    by_cases hxu : x < U
    ·have hxi : (x : Int) < min ((X : Int) + bw) W := (hU1.out x).2 hxu
     have hidx := hin.out x y hxu hyv
     have hm1 := hmul.out y hyH
     have hR2 := hid (hR.set (j := y * W + x) (by rw [hlen.out]; exact hidx) t)
     rw [hset.out y x (by omega) hx hxu hy hyv] at hR2
     obtain ⟨old, hxc⟩ : ∃ v, wr.cell? ⟨g, y * W + x, none⟩ = some v := ⟨_, hR.a.cell (j := y * W + x) (by rw [hlen.out]; exact hidx)⟩
     have hfz := hR.a.z.fr
     have hidn : y * W + x < n := by have := hnn.out; omega
     have hw1 : IntKind.i64.wrap ((y : Int) * (W : Int)) = ((y * W : Nat) : Int) := by rw [IntKind.wrap_i64, Int.natCast_mul]; rw [← Int.natCast_mul]; omega
     have hw2 : IntKind.i64.wrap (((y * W : Nat) : Int) + (x : Int)) = ((y * W + x : Nat) : Int) := by rw [IntKind.wrap_i64]; omega
     clear hR hm1 hidx
     generalize y * W + x = ix at *
     generalize y * W = iy at *
     have hii : (ix : Int) < (n : Int) := by omega
     go_wp2
     go_roundw
     case rel => exact ⟨x + 1, by go_num, by omega, hR2.out⟩
     case measure => simp [intOf]; omega
    ·have hxi : ¬ (x : Int) < min ((X : Int) + bw) W := fun h => hxu ((hU1.out x).1 h)
     have hR2 := hid (hR.cast (hrow.out y x (by omega)))
     clear hR
     go_wp2
     go_roundw
     case rel => exact ⟨y + 1, by go_num, by omega, hR2.out⟩
     case measure => simp [intOf]; omega
  ·have hyi : ¬ (y : Int) < min ((Y : Int) + bh) H := fun h => hyv ((hV1.out y).1 h)
   have hR2 := hid (hR.cast (hend.out y (by omega)))
   clear hR
   go_wp2
   refine bodyPost_end (results_none rfl _ _ _) rfl ?_
   exact ⟨rfl, PxR.step HB hR2.out⟩
end Go.Proofs.Ytjfgklhifhaaoaa
