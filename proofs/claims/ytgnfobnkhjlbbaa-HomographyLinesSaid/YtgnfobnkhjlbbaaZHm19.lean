/- Homographies: walk of coordinates (package). Conditions: none. -/
import Derived.Test.YtgnfobnkhjlbbaaZYS
set_option linter.unusedVariables false
set_option linter.unusedSimpArgs false
namespace Go.Proofs.Ytgnfobnkhjlbbaa
open Go.RowKit Big

/-- a row of fractions that the call owns comes back -/
def RetRow (w : World) (fs : List Rf) (e : Ending) (w' : World) : Prop := ∃ v, e = .returned v ∧ w'.ownsRow w.heap.size 26 4 v fs.length (cellsM (zl fs)) ∧ Below w.heap.size w w'
/-- the four cells of a fraction of an array -/
theorem rf_cells {w : World} {g : Nat} {fs : List Rf} (hr : w.rangeAt g 0 (cellsM (zl fs))) (j : Nat) (hj : j < fs.length) : w.cell? ⟨g, j * 4, none⟩ = some (.bool fs[j].na) ∧ w.cell? ⟨g, j * 4 + 1, none⟩ = some (.slice fs[j].A fs[j].xs.length fs[j].ca) ∧ w.cell? ⟨g, j * 4 + 2, none⟩ = some (.bool fs[j].nb) ∧ w.cell? ⟨g, j * 4 + 3, none⟩ = some (.slice fs[j].B fs[j].ys.length fs[j].cb) := by
  have hl := zl_len fs
  obtain ⟨g1, g2⟩ := zl_get fs j hj
  obtain ⟨p0, p1⟩ := cellsM_get (zl fs) (2 * j) (by omega)
  obtain ⟨p2, p3⟩ := cellsM_get (zl fs) (2 * j + 1) (by omega)
  rw [List.getElem?_eq_getElem (by omega)] at g1 g2
  rw [Option.some.inj g1] at p0 p1
  rw [Option.some.inj g2] at p2 p3
  have t0 := hr _ _ p0
  have t1 := hr _ _ p1
  have t2 := hr _ _ p2
  have t3 := hr _ _ p3
  rw [Nat.zero_add] at t0 t1 t2 t3
  rw [show 2 * j * 2 = j * 4 by omega] at t0 t1
  rw [show (2 * j + 1) * 2 = j * 4 + 2 by omega] at t2 t3
  exact ⟨t0, t1, t2, t3⟩
theorem rng_alloc2 {w : World} {X : Obj} {cs : List Value} {t : TypeId} : ((w.alloc X).alloc (.cells cs.toArray t)).rangeAt (w.heap.size + 1) 0 cs := by
  have := rng_alloc (w := w.alloc X) (cs := cs) (t := t)
  rwa [World.size_alloc] at this
set_option maxRecDepth 100000 in
set_option maxHeartbeats 8000000 in
theorem Hcoordinates_g (fs : List Rf) (h8 : fs.length = 8) {g : Nat} {w : World} (hr : w.rangeAt g 0 (cellsM (zl fs))) :
    Calls Try.prog 20 #[.slice (some ⟨g, 0, none⟩) 4 4] w (RetRow w fs) := by
  have hlg := cell_lt (rf_cells hr 0 (by omega)).1
  have HR := hid hr
  clear hr
  go_enter Try.func20, Try.ntmps20
  go_wp2
  go_loopw [8, 3] (fun s8 s3 wr => ∃ j : Nat, j ≤ 4 ∧ s8 = .int .i64 j ∧ wr.ownsRow w.heap.size 26 4 s3 (2 * j) (cellsM (zl (fs.take (2 * j)))) ∧ Below w.heap.size w wr) (fun s8 _ _ => 4 - (intOf s8).toNat)
  case atStart => exact ⟨0, by omega, rfl, World.ownsRow_nil _ _ _ _, Below.refl _ _⟩
  case round =>
    obtain ⟨j, hj, rfl, hown, hbl⟩ := hrel
    by_cases h4 : j < 4
    · have h4i : (j : Int) < 4 := by omega
      obtain ⟨t0, t1, t2, t3⟩ := rf_cells (rng_below HR.out hbl) (2 * j) (by omega)
      obtain ⟨t4, t5, t6, t7⟩ := rf_cells (rng_below HR.out hbl) (2 * j + 1) (by omega)
      rw [show 2 * j * 4 = j * 8 by omega] at t0 t1 t2 t3
      rw [show (2 * j + 1) * 4 = j * 8 + 4 by omega] at t4 t5 t6 t7
      have hzt := zl_take fs j (by omega)
      generalize fs[2 * j] = p at *
      generalize fs[2 * j + 1] = q at *
      have HZT : Hid (cellsM (zl (fs.take (2 * (j + 1)))) = cellsM (zl (fs.take (2 * j))) ++ cellsM (p.ze ++ q.ze)) := by unfold Hid; rw [hzt, cellsM_app]
      obtain ⟨na, A, xs, ca, nb, B, ys, cb⟩ := p
      obtain ⟨nc, C, us, cc, nd, D, vs, cd⟩ := q
      dsimp only at *
      have HO := hid hown
      have lt0 := cell_lt t0
      have hsb := hbl.size
      clear hzt hown
      have hB2 : ∀ (X Y : Obj), Below w.heap.size w ((wr.alloc X).alloc Y) := fun X Y => (hbl.alloc hbl.size _).alloc (by simp; omega) _
      go_wp2_with (at_builtin; refine wpList_appF rfl (.tmp 12) (.tmp 17) rfl w.heap.size _ (2 * j) _ rfl (own_belowN HO.out (((Below.refl _ _).alloc (Nat.le_refl _) _).alloc (by simp) _)) (wr.heap.size + 1) 2 2 rfl (cellsM (Rf.ze ⟨na, A, xs, ca, nb, B, ys, cb⟩ ++ Rf.ze ⟨nc, C, us, cc, nd, D, vs, cd⟩)) rfl rng_alloc2 (cellsM_one _) (by omega) (by simp; omega) ?_; intro v5 w6 hown6 hb6)
      rw [← HZT.out] at hown6
      have HF := hid (And.intro hown6 ((hB2 _ _).trans hb6))
      clear hown6 hb6 hB2 HZT HO t0 t1 t2 t3 t4 t5 t6 t7
      go_roundw
      case rel => exact ⟨j + 1, by omega, by go_num, HF.out.1, HF.out.2⟩
      case measure => simp [intOf]; omega
    · obtain rfl : j = 4 := by omega
      rw [List.take_of_length_le (by omega)] at hown
      have HF := hid (And.intro hown hbl)
      clear hown hbl
      go_wp2
      go_ret
      refine ⟨_, rfl, ?_, HF.out.2⟩
      rw [h8]
      exact HF.out.1
end Go.Proofs.Ytgnfobnkhjlbbaa
