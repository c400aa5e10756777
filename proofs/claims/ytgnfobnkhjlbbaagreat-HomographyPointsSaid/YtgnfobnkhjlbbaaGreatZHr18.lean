/- Homographies, the reference: walk of right. Conditions: none. -/
import Derived.Test.YtgnfobnkhjlbbaaGreatZYR
import Derived.Test.YtgnfobnkhjlbbaaGreatZAr10
import Derived.Test.YtgnfobnkhjlbbaaGreatZXG
set_option linter.unusedVariables false
set_option linter.unusedSimpArgs false
namespace Go.Proofs.YtgnfobnkhjlbbaaGreat
open Go.RowKit Big
theorem Q26u : ∃ d, Tryz.prog.underlying 26 = some d ∧ d.isRow = true := ⟨_, Tryz.underlying26, rfl⟩
theorem Q26i : (Tryz.prog.info? 26).map (·.size) = some 4 := by kernel_rfl
theorem HRsz (x : Rf) {w : World} (m : x.mg w) : Calls Tryz.prog 37 #[.agg (cellsM x.ze).toArray] w (RetI w (x.sz : Int)) := HRsize_g (w := w) (na := x.na) (nb := x.nb) (k := x.xs.length) (l := x.ys.length) (A := x.A) (B := x.B) (ca := x.ca) (cb := x.cb) (Nat.le_trans m.m1.cap m.m1.max) (Nat.le_trans m.m2.cap m.m2.max)
set_option maxRecDepth 100000 in
set_option maxHeartbeats 8000000 in
theorem HRright_g (x y : Rf) {w : World} (mx : x.mg w) (my : y.mg w) :
  Calls Tryz.prog 36 #[.agg (cellsM (zl [x, y])).toArray] w (RetB w (x.v && y.v)) := by
 have HX := hid fun (W : World) (h : Below w.heap.size w W) => Qvalid_any (w := W) (na := x.na) (nb := x.nb) (mx.m1.below h) (mx.m2.below h)
 have HY := hid fun (W : World) (h : Below w.heap.size w W) => Qvalid_any (w := W) (na := y.na) (nb := y.nb) (my.m1.below h) (my.m2.below h)
 rw [show fvB x.na x.xs x.nb x.ys = x.v from rfl] at HX
 rw [show fvB y.na y.xs y.nb y.ys = y.v from rfl] at HY
 generalize x.v = vx at *
 generalize y.v = vy at *
 clear mx my
 go_enter Tryz.func36, Tryz.ntmps36
 go_upto_region 1 with fail
 refine enterR (P := fun u => Code.wp _ _ _ _ u) (c := cellsM (zl [x, y])) ?_
 intro u HB r0 z0 hsz
 have c0 : u.cell? ⟨w.heap.size, 0, none⟩ = some (.bool x.na) := r0 0 _ rfl
 have c1 : u.cell? ⟨w.heap.size, 1, none⟩ = some (.slice x.A x.xs.length x.ca) := r0 1 _ rfl
 have c2 : u.cell? ⟨w.heap.size, 2, none⟩ = some (.bool x.nb) := r0 2 _ rfl
 have c3 : u.cell? ⟨w.heap.size, 3, none⟩ = some (.slice x.B x.ys.length x.cb) := r0 3 _ rfl
 have c4 : u.cell? ⟨w.heap.size, 4, none⟩ = some (.bool y.na) := r0 4 _ rfl
 have c5 : u.cell? ⟨w.heap.size, 5, none⟩ = some (.slice y.A y.xs.length y.ca) := r0 5 _ rfl
 have c6 : u.cell? ⟨w.heap.size, 6, none⟩ = some (.bool y.nb) := r0 6 _ rfl
 have c7 : u.cell? ⟨w.heap.size, 7, none⟩ = some (.slice y.B y.ys.length y.cb) := r0 7 _ rfl
 have lt0 := cell_lt c0
 clear r0 z0 hsz
 go_wp2_with fail
 refine (HX.out u HB).mono ?_
 rintro e x1 ⟨rfl, hq_⟩
 have HB := bel_step HB hq_
 cases vx
 ·go_wp2
  go_ret
  exact ⟨by simp, HB⟩
 ·have c4 := keep_cell hq_ c4
  have c5 := keep_cell hq_ c5
  have c6 := keep_cell hq_ c6
  have c7 := keep_cell hq_ c7
  clear c0 c1 c2 c3
  go_wp2_with fail
  refine (HY.out x1 HB).mono ?_
  rintro e x2 ⟨rfl, hq_⟩
  go_wp2
  go_ret
  exact ⟨by simp, bel_step HB hq_⟩
end Go.Proofs.YtgnfobnkhjlbbaaGreat
