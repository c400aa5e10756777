/- The frame of the homographies' statements: what the arguments give the walks. Conditions: none. -/
import Derived.Test.YtgnfobnkhjlbbaaZYR
import Derived.Test.YtgnfobnkhjlbbaaRows
import Derived.ProofKit
import Derived.OpenShut
import Derived.ChangeOld
import Derived.LaidMore
import Derived.Lay
import Derived.Stop.Joined
import Derived.Stop.LaidErr
import Derived.Lib.SmallJoins
set_option linter.unusedVariables false
set_option linter.unusedSimpArgs false
namespace Go.Proofs.Ytgnfobnkhjlbbaa
open Go.ChangeShapes Go.WideShapes Go.ChangeAt Go.RowKit Go.Deep Go.Joins
set_option maxRecDepth 100000

theorem own : ownKnob Try.prog.godebug = none := by kernel_rfl
theorem laidOut : laidOutB Try.prog = true := by kernel_rfl
section
variable {H : Type} {enc : TypeId × Value → H} {W : World} {b0 base : Nat} {r : Reach} {spare : Nat → Bool} {held : Bool}
/-- a slice of one-cell integers that came in -/
theorem rd_of_ints {k : IntKind} {zs : List Int} {x : Addr} (hc : ∀ i, i < zs.length → W.cell? (x.add i) = some (.int k (zs.getD i 0))) (n : Nat) (hn : n ≤ zs.length) {α : Type} (f : α → Value) (l : List α) (hl : l.length = n) (hf : ∀ i (h : i < l.length), f l[i] = .int k (zs.getD i 0)) : Rd f W (some x) l := by
  intro h0
  obtain ⟨b, o, s⟩ := x
  have h1 := hc 0 (by omega)
  obtain rfl : s = none := by simpa [Addr.add] using World.cell?_spot h1
  refine ⟨b, o, rfl, ?_, fun j hj => ?_⟩
  · have h2 : W.cell? ⟨b, o, none⟩ = some (.int k (zs.getD 0 0)) := by simpa [Addr.add] using h1
    rcases Nat.lt_or_ge b W.heap.size with h3 | h3
    · exact h3
    · simp [World.cell?, Array.getElem?_eq_none h3] at h2
  · rw [hf j hj]
    have h4 := hc j (by omega)
    have e : (⟨b, o, none⟩ : Addr).add j = ⟨b, o + j, none⟩ := by simp [Addr.add]
    rw [e] at h4
    exact h4
theorem list2 {α : Type} {cs : List α} (h : cs.length = 2) : ∃ c0 c1, cs = [c0, c1] := by
  match cs, h with
  | [c0, c1], _ => exact ⟨c0, c1, rfl⟩
set_option maxRecDepth 100000 in
theorem int_cells {n : Nat} {cs : List Value} {y : DataW H × List MemPlace} (hl2 : cs.length = 2) (h : DataW.trod enc Try.prog W base spare held n 24 cs = some y) :
    ∃ (neg : Bool) (A : Option Addr) (xs : List Nat) (c : Nat), cs = [.bool neg, .slice A xs.length c] ∧ Mg W A c xs := by
  obtain ⟨c0, c1, rfl⟩ := list2 hl2
  obtain ⟨y0, y1, m, hx, _, h0', h1'⟩ := trod_struct2 Try.underlying24 h
  have e0 : ([c0, c1].drop 0).take (Try.prog.cellsOf 4) = [c0] := by rw [show Try.prog.cellsOf 4 = 1 by kernel_rfl]; rfl
  have e1 : ([c0, c1].drop 1).take (Try.prog.cellsOf 22) = [c1] := by rw [show Try.prog.cellsOf 22 = 1 by kernel_rfl]; rfl
  have h0 : DataW.trod enc Try.prog W base spare held m 4 [c0] = some y0 := by rw [← e0]; exact h0'
  have h1 : DataW.trod enc Try.prog W base spare held m 22 [c1] = some y1 := by rw [← e1]; exact h1'
  obtain ⟨neg, e0, _⟩ := DataW.trod_bool Try.underlying4 h0
  simp only [List.cons.injEq, and_true] at e0
  subst e0
  rcases open_ints Try.underlying22 Try.underlying103 (by kernel_rfl) h1 with ⟨hcs, _⟩ | ⟨x, l, c, zs, hcs, _, hl, hm, hz, _, hcell, hwz⟩
  · simp only [List.cons.injEq, and_true] at hcs
    subst hcs
    exact ⟨neg, none, [], 0, rfl, by simp, by omega, by intro x hx; simp at hx, Rd.nil _ _⟩
  · simp only [List.cons.injEq, and_true] at hcs
    subst hcs
    have hzl : l ≤ zs.length := by rw [hz]; split <;> omega
    have hwf : ∀ n ∈ zs, 0 ≤ n ∧ n < 4294967296 := fun n hn => by
      have := hwz n hn
      simp [Lit.wf, IntKind.min, IntKind.max, IntKind.signed, IntKind.bits] at this
      omega
    refine ⟨neg, some x, (zs.take l).map Int.toNat, c, by simp [Nat.min_eq_left hzl], by simp [Nat.min_eq_left hzl]; exact hl, by unfold maxLen at hm; omega, ?_, ?_⟩
    · intro n hn
      obtain ⟨z, hz1, rfl⟩ := List.mem_map.1 hn
      have := hwf z (List.mem_of_mem_take hz1)
      omega
    · refine rd_of_ints hcell l hzl lim _ (by simp [Nat.min_eq_left hzl]) (fun i hi => ?_)
      have hi' : i < zs.length := by simp at hi; omega
      have h9 := hwf zs[i] (List.getElem_mem hi')
      have e1 : ((zs.take l).map Int.toNat)[i] = (zs[i]).toNat := by simp
      have e2 : zs.getD i 0 = zs[i] := by simp [List.getD, List.getElem?_eq_getElem hi']
      rw [e1, e2]
      unfold lim
      rw [Int.toNat_of_nonneg h9.1]
theorem list4 {α : Type} {cs : List α} (h : cs.length = 4) : ∃ c0 c1 c2 c3, cs = [c0, c1, c2, c3] := by
  match cs, h with
  | [c0, c1, c2, c3], _ => exact ⟨c0, c1, c2, c3, rfl⟩
set_option maxRecDepth 100000 in
theorem frac_cells {n : Nat} {cs : List Value} {y : DataW H × List MemPlace} (hl4 : cs.length = 4) (hf : DataW.trod enc Try.prog W base spare held n 26 cs = some y) :
    ∃ f : Rf, cs = cellsM f.ze ∧ f.mg W := by
  obtain ⟨c0, c1, c2, c3, rfl⟩ := list4 hl4
  obtain ⟨y0, y1, m, hx, _, h0', h1'⟩ := trod_struct2 Try.underlying26 hf
  have e0 : (([c0, c1, c2, c3] : List Value).drop 0).take (Try.prog.cellsOf 24) = [c0, c1] := by rw [show Try.prog.cellsOf 24 = 2 by kernel_rfl]; rfl
  have e1 : (([c0, c1, c2, c3] : List Value).drop 2).take (Try.prog.cellsOf 24) = [c2, c3] := by rw [show Try.prog.cellsOf 24 = 2 by kernel_rfl]; rfl
  have h0 : DataW.trod enc Try.prog W base spare held m 24 [c0, c1] = some y0 := by rw [← e0]; exact h0'
  have h1 : DataW.trod enc Try.prog W base spare held m 24 [c2, c3] = some y1 := by rw [← e1]; exact h1'
  obtain ⟨na, A, xs, c, e2, m1⟩ := int_cells rfl h0
  obtain ⟨nb, B, ys, e, e3, m2⟩ := int_cells rfl h1
  simp only [List.cons.injEq, and_true] at e2 e3
  obtain ⟨rfl, rfl⟩ := e2
  obtain ⟨rfl, rfl⟩ := e3
  exact ⟨⟨na, A, xs, c, nb, B, ys, e⟩, rfl, m1, m2⟩
theorem zl_one (f : Rf) : zl [f] = f.ze := by simp [zl]
/-- fractions one behind the other -/
theorem rfs_of_chunks (k : Nat) : ∀ (n : Nat) (cs : List Value), cs.length = n * (4 * k) → (∀ i, i < n → ∃ fs : List Rf, fs.length = k ∧ (cs.drop (i * (4 * k))).take (4 * k) = cellsM (zl fs) ∧ ∀ f ∈ fs, f.mg W) → ∃ fs : List Rf, fs.length = n * k ∧ cs = cellsM (zl fs) ∧ ∀ f ∈ fs, f.mg W
  | 0, cs, hl, _ => by
    obtain rfl : cs = [] := List.eq_nil_of_length_eq_zero (by omega)
    exact ⟨[], by simp, rfl, fun f hf => by simp at hf⟩
  | n + 1, cs, hl, h => by
    obtain ⟨fs, hf1, hf2, hf3⟩ := h 0 (by omega)
    rw [Nat.zero_mul, List.drop_zero] at hf2
    have hl' : (cs.drop (4 * k)).length = n * (4 * k) := by rw [List.length_drop, hl, Nat.succ_mul]; omega
    obtain ⟨gs, hg1, hg2, hg3⟩ := rfs_of_chunks k n (cs.drop (4 * k)) hl' fun i hi => by
      obtain ⟨q, q1, q2, q3⟩ := h (i + 1) (by omega)
      refine ⟨q, q1, ?_, q3⟩
      have e : (i + 1) * (4 * k) = 4 * k + i * (4 * k) := by rw [Nat.add_mul, Nat.one_mul, Nat.add_comm]
      rw [List.drop_drop, ← q2, e]
    refine ⟨fs ++ gs, by rw [List.length_append, hf1, hg1, Nat.succ_mul, Nat.add_comm], ?_, fun f hf => (List.mem_append.1 hf).elim (hf3 f) (hg3 f)⟩
    rw [zl_app, cellsM_app, ← hf2, ← hg2, List.take_append_drop]
theorem arr_cells {n m : Nat} {t : TypeId} {cs : List Value} {y : DataW H × List MemPlace} (ht : Try.prog.underlying t = some (.array n 26)) (hc : Try.prog.cellsOf t = n * 4) (h : DataW.trod enc Try.prog W base spare held m t cs = some y) :
    ∃ fs : List Rf, fs.length = n ∧ cs = cellsM (zl fs) ∧ ∀ f ∈ fs, f.mg W := by
  obtain ⟨xs, m', _, _, hl, hxl, hi⟩ := DataW.trod_array ht h
  have h4 : Try.prog.cellsOf 26 = 4 := by kernel_rfl
  rw [h4] at hi
  rw [hc] at hl
  obtain ⟨fs, q1, q2, q3⟩ := rfs_of_chunks (W := W) 1 n cs (by omega) fun i hin => by
    have h1 := hi i hin
    rw [List.getElem?_eq_getElem (by omega)] at h1
    obtain ⟨f, hf1, hf2⟩ := frac_cells (by rw [List.length_take, List.length_drop]; have : (i + 1) * 4 ≤ n * 4 := Nat.mul_le_mul_right _ hin; omega) h1
    exact ⟨[f], rfl, by rw [zl_one]; exact hf1, fun g hg => by simp at hg; subst hg; exact hf2⟩
  exact ⟨fs, by omega, q2, q3⟩
theorem pt_cells {m : Nat} {cs : List Value} {y : DataW H × List MemPlace} (h : DataW.trod enc Try.prog W base spare held m 28 cs = some y) :
    ∃ fs : List Rf, fs.length = 2 ∧ cs = cellsM (zl fs) ∧ ∀ f ∈ fs, f.mg W := by
  obtain ⟨y0, y1, m', hx, hl, h0, h1⟩ := trod_struct2 Try.underlying28 h
  have h8 : Try.prog.cellsOf 28 = 8 := by kernel_rfl
  have h4 : Try.prog.cellsOf 26 = 4 := by kernel_rfl
  rw [h8] at hl
  simp only [h4, List.drop_zero] at h0 h1
  obtain ⟨f, f1, f2⟩ := frac_cells (by rw [List.length_take]; omega) h0
  obtain ⟨g, g1, g2⟩ := frac_cells (by rw [List.length_take, List.length_drop]; omega) h1
  refine ⟨[f, g], rfl, ?_, fun q hq => ?_⟩
  · rw [show zl [f, g] = f.ze ++ g.ze by simp [zl], cellsM_app, ← f1, ← g1]
    rw [List.take_of_length_le (l := cs.drop 4) (by rw [List.length_drop]; omega), List.take_append_drop]
  · simp only [List.mem_cons, List.not_mem_nil, or_false] at hq
    rcases hq with rfl | rfl
    · exact f2
    · exact g2
set_option maxRecDepth 100000 in
/-- a point that came in -/
theorem open_Pt {v : Value} {d : DataW H} {p : List MemPlace} (hv : Value.okWide Try.prog W r b0 28 v) (h : DataW.Trod enc Try.prog W base spare held 28 v d p) :
    ∃ fs : List Rf, fs.length = 2 ∧ v = .agg (cellsM (zl fs)).toArray ∧ ∀ f ∈ fs, f.mg W := by
  obtain ⟨cs, rfl, hsz⟩ := okWide_struct Try.underlying28 hv
  obtain ⟨fuel, hf⟩ := h
  obtain ⟨fs, h1, h2, h3⟩ := pt_cells hf
  have e : cs.toList = cellsM (zl fs) := h2
  exact ⟨fs, h1, by rw [← e, Array.toArray_toList], h3⟩
set_option maxRecDepth 100000 in
/-- a transformation that came in -/
theorem open_Hom {v : Value} {d : DataW H} {p : List MemPlace} (hv : Value.okWide Try.prog W r b0 32 v) (h : DataW.Trod enc Try.prog W base spare held 32 v d p) :
    ∃ fs : List Rf, fs.length = 9 ∧ v = .agg (cellsM (zl fs)).toArray ∧ ∀ f ∈ fs, f.mg W := by
  obtain ⟨cs, rfl, hsz⟩ := okWide_struct Try.underlying32 hv
  obtain ⟨fuel, hf⟩ := h
  obtain ⟨y0, m, _, hl, h0⟩ := trod_struct1 Try.underlying32 hf
  have h36 : Try.prog.cellsOf 30 = 36 := by kernel_rfl
  have h36' : Try.prog.cellsOf 32 = 36 := by kernel_rfl
  rw [h36'] at hl
  simp only [h36, List.drop_zero] at h0
  rw [List.take_of_length_le (by omega)] at h0
  obtain ⟨fs, h1, h2, h3⟩ := arr_cells Try.underlying30 h36 h0
  have e : cs.toList = cellsM (zl fs) := h2
  exact ⟨fs, h1, by rw [← e, Array.toArray_toList], h3⟩
end
end Go.Proofs.Ytgnfobnkhjlbbaa
