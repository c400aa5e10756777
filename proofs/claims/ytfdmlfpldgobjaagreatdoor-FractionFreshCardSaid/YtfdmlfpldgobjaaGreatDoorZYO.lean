/- The frame of the statements' proofs: what the arguments and the listed tables give the walks. Conditions: none. -/
import Derived.Test.YtfdmlfpldgobjaaGreatDoorZYE
import Derived.Test.YtfdmlfpldgobjaaGreatDoorZYD
import Derived.Test.YtfdmlfpldgobjaaGreatDoorRows
import Derived.ProofKit
import Derived.OpenShut
import Derived.ShutString
import Derived.ChangeOld
import Derived.LaidMore
import Derived.Lay
import Derived.Stop.Joined
import Derived.Stop.LaidErr
import Derived.Lib.SmallJoins
import Derived.Lib.LaidTab
import Derived.Test.YtfdmlfpldgobjaaGreatDoorZFrQ
import Derived.HandedShaped
import Derived.Shelf.Vars
set_option linter.unusedVariables false
set_option linter.unusedSimpArgs false
namespace Go.Proofs.YtfdmlfpldgobjaaGreatDoor
open Go.ChangeShapes Go.WideShapes Go.ChangeAt Go.RowKit Go.Deep Go.Joins
theorem own : ownKnob Tryz.prog.godebug = none := by kernel_rfl
theorem laidOut : laidOutB Tryz.prog = true := by kernel_rfl
theorem pow_of_laid {W : World} (h0 : laidMetH Tryz.prog [("math/bits.deBruijn32tab", Rows.laid_math_bits_deBruijn32tab), ("math/bits.deBruijn64tab", Rows.laid_math_bits_deBruijn64tab), ("internal/strconv.uint64pow10", Rows.laid_internal_strconv_uint64pow10)] W) : PowTab W := by
 rw [MakeChecks.laidMetH_plain _ _ _ (by kernel_rfl)] at h0
 exact Lib.tabIs_of_head (g := 1) (t := 130) (e := 79) (n := 20) (rest := []) (by kernel_rfl) (by kernel_rfl) Tryz.underlying130 Tryz.underlying79 (by kernel_rfl) (by kernel_rfl) h0.tail.tail
section
variable {H : Type} {enc : TypeId × Value → H} {W : World} {b0 base : Nat} {r : Reach} {spare : Nat → Bool} {held : Bool}
/-- a slice of one-cell integers that came in -/
theorem rd_of_ints {k : IntKind} {zs : List Int} {x : Addr} (hc : ∀ i, i < zs.length → W.cell? (x.add i) = some (.int k (zs.getD i 0))) (n : Nat) (hn : n ≤ zs.length) {α : Type} (f : α → Value) (l : List α) (hl : l.length = n) (hf : ∀ i (h : i < l.length), f l[i] = .int k (zs.getD i 0)) : Rd f W (some x) l := by
 intro h0
 obtain ⟨b, o, s⟩ := x
 have h1 := hc 0 (by omega)
 obtain rfl : s = none := by simpa [Addr.add] using World.cell?_spot h1
 refine ⟨b, o, rfl, ?_, fun j hj => ?_⟩
 ·have h2 : W.cell? ⟨b, o, none⟩ = some (.int k (zs.getD 0 0)) := by simpa [Addr.add] using h1
  rcases Nat.lt_or_ge b W.heap.size with h3 | h3
  ·exact h3
  ·simp [World.cell?, Array.getElem?_eq_none h3] at h2
 ·rw [hf j hj]
  have h4 := hc j (by omega)
  have e : (⟨b, o, none⟩ : Addr).add j = ⟨b, o + j, none⟩ := by simp [Addr.add]
  rw [e] at h4
  exact h4
end
end Go.Proofs.YtfdmlfpldgobjaaGreatDoor
/- The frame of the fractions' statements: what the arguments give the walks. Conditions: none. -/
namespace Go.Proofs.YtfdmlfpldgobjaaGreatDoor
open Go.ChangeShapes Go.WideShapes Go.ChangeAt Go.RowKit Go.Deep Go.Joins
theorem len_of_shape {w : World} (h : w.ShapedOpen Tryz.prog) : LenAt w :=
 Go.Proofs.cell_of_shapedOpen_int (zero := #[.int .i64 0]) (t := 3) h (of_decide_eq_true (by kernel_rfl)) (by kernel_rfl) rfl (by kernel_rfl) (by kernel_rfl) Tryz.underlying3
section
variable {H : Type} {enc : TypeId × Value → H}
/-- the row's wrap with listed variables, the world's shape kept -/
theorem handed_and_shaped {a : Assume} {C : Checked} {os : Os} {f : FuncId} {fn : Func} {s : ChangeSpec} {conds : List PathCond} {apart fresh handsOn again : Bool} {X : World → Array Value → Prop}
  (hX : ∀ (w w' : World) (args : Array Value), w.heap = w'.heap → X w args → X w' args)
  (own : ownKnob C.prog.godebug = none) (started : os.Started) (noInit : C.prog.inits.idxOf? f = none) (hfn : C.prog.funcs[f]? = some fn)
  (witness : ∃ (w : World) (tape : Tape) (i : Input), w.os = os ∧ (w.forCall tape i).Shaped C.prog ∧ i.vars = [] ∧ Input.okWide C.prog (w.forCall tape i) .any w.heap.size f i ∧
   ((s.pre enc C.prog fn conds apart (w.forCall tape i).memory i.args ∧ X (w.forCall tape i).memory i.args) ∧ sizedMet enc C.prog fn (OpenSpec.ofChange s) apart (w.forCall tape i).memory i.args) ∧ a.holds C.prog (lone (Frame.enter C.prog f i.args .normal) [] (w.forCall tape i)))
  (contract : ∀ (W : World) (base : Nat) (args : Array Value) (ds gs : List (DataW H)) (before : List MemPlace),
   (∀ (j : Nat) t v, fn.params[j]? = some t → args[j]? = some v → Value.okWide C.prog W .any base t v) →
   DataW.Whole enc C.prog fn.params.toList s.vars apart W args.toList ds gs before →
   X W args → W.ShapedOpen C.prog →
   Calls C.prog f args W fun e W' => ∃ v, e = .returned v ∧ s.post enc C.prog fn apart fresh handsOn again W args v W') :
  ReturnsInHanded a C os f .any (fun w args => (s.pre enc C.prog fn conds apart w args ∧ X w args) ∧ sizedMet enc C.prog fn (OpenSpec.ofChange s) apart w args) (s.post enc C.prog fn apart fresh handsOn again) := by
 refine returnsInHanded_of_calls own started noInit witness ?_
 intro w tape i _ hsh _ hok hpre _
 obtain ⟨_, _, _, fn', hfn', _, _, _, _, hval⟩ := hok
 have e : fn' = fn := Option.some.inj (hfn'.symm.trans hfn)
 subst e
 obtain ⟨⟨⟨ds, gs, before, hw, _⟩, hx⟩, _⟩ := hpre
 have hw' := DataW.Whole.of_heap (w' := w.forCall tape i) (by rfl) hw
 refine (contract (w.forCall tape i) w.heap.size i.args ds gs before hval hw' (hX _ _ _ (by rfl) hx) hsh).mono fun e W' ⟨v, he, hp⟩ => ?_
 subst he
 exact ChangeSpec.post_blind hp
end
section
variable {H : Type} {enc : TypeId × Value → H} {W : World} {b0 base : Nat} {r : Reach} {spare : Nat → Bool} {held : Bool}
theorem list2 {α : Type} {cs : List α} (h : cs.length = 2) : ∃ c0 c1, cs = [c0, c1] := by
 match cs, h with
 | [c0, c1], _ => exact ⟨c0, c1, rfl⟩
set_option maxRecDepth 100000 in
theorem int_cells {n : Nat} {cs : List Value} {y : DataW H × List MemPlace} (hl2 : cs.length = 2) (h : DataW.trod enc Tryz.prog W base spare held n 24 cs = some y) :
  ∃ (neg : Bool) (A : Option Addr) (xs : List Nat) (c : Nat), cs = [.bool neg, .slice A xs.length c] ∧ Mg W A c xs := by
 obtain ⟨c0, c1, rfl⟩ := list2 hl2
 obtain ⟨y0, y1, m, hx, _, h0', h1'⟩ := trod_struct2 Tryz.underlying24 h
 have e0 : ([c0, c1].drop 0).take (Tryz.prog.cellsOf 4) = [c0] := by rw [show Tryz.prog.cellsOf 4 = 1 by kernel_rfl]; rfl
 have e1 : ([c0, c1].drop 1).take (Tryz.prog.cellsOf 22) = [c1] := by rw [show Tryz.prog.cellsOf 22 = 1 by kernel_rfl]; rfl
 have h0 : DataW.trod enc Tryz.prog W base spare held m 4 [c0] = some y0 := by rw [← e0]; exact h0'
 have h1 : DataW.trod enc Tryz.prog W base spare held m 22 [c1] = some y1 := by rw [← e1]; exact h1'
 obtain ⟨neg, e0, _⟩ := DataW.trod_bool Tryz.underlying4 h0
 simp only [List.cons.injEq, and_true] at e0
 subst e0
 rcases open_ints Tryz.underlying22 Tryz.underlying61 (by kernel_rfl) h1 with ⟨hcs, _⟩ | ⟨x, l, c, zs, hcs, _, hl, hm, hz, _, hcell, hwz⟩
 ·simp only [List.cons.injEq, and_true] at hcs
  subst hcs
  exact ⟨neg, none, [], 0, rfl, by simp, by omega, by intro x hx; simp at hx, Rd.nil _ _⟩
 ·simp only [List.cons.injEq, and_true] at hcs
  subst hcs
  have hzl : l ≤ zs.length := by rw [hz]; split <;> omega
  have hwf : ∀ n ∈ zs, 0 ≤ n ∧ n < 4294967296 := fun n hn => by
   have := hwz n hn
   simp [Lit.wf, IntKind.min, IntKind.max, IntKind.signed, IntKind.bits] at this
   omega
  refine ⟨neg, some x, (zs.take l).map Int.toNat, c, by simp [Nat.min_eq_left hzl], by simp [Nat.min_eq_left hzl]; exact hl, by unfold maxLen at hm; omega, ?_, ?_⟩
  ·intro n hn
   obtain ⟨z, hz1, rfl⟩ := List.mem_map.1 hn
   have := hwf z (List.mem_of_mem_take hz1)
   omega
  ·refine rd_of_ints hcell l hzl lim _ (by simp [Nat.min_eq_left hzl]) (fun i hi => ?_)
   have hi' : i < zs.length := by simp at hi; omega
   have h9 := hwf zs[i] (List.getElem_mem hi')
   have e1 : ((zs.take l).map Int.toNat)[i] = (zs[i]).toNat := by simp
   have e2 : zs.getD i 0 = zs[i] := by simp [List.getD, List.getElem?_eq_getElem hi']
   rw [e1, e2]
   unfold lim
   rw [Int.toNat_of_nonneg h9.1]
set_option maxRecDepth 100000 in
theorem open_Frac {v : Value} {d : DataW H} {p : List MemPlace} (hv : Value.okWide Tryz.prog W r b0 26 v) (h : DataW.Trod enc Tryz.prog W base spare held 26 v d p) :
  ∃ (na nb : Bool) (A B : Option Addr) (xs ys : List Nat) (c e : Nat), v = .agg #[.bool na, .slice A xs.length c, .bool nb, .slice B ys.length e] ∧ Mg W A c xs ∧ Mg W B e ys := by
 obtain ⟨cs, rfl, hsz⟩ := okWide_struct Tryz.underlying26 hv
 obtain ⟨c0, c1, c2, c3, rfl⟩ := array4 (hsz.trans (by kernel_rfl))
 obtain ⟨fuel, hf⟩ := h
 obtain ⟨y0, y1, m, hx, _, h0', h1'⟩ := trod_struct2 Tryz.underlying26 hf
 have e0 : (([c0, c1, c2, c3] : List Value).drop 0).take (Tryz.prog.cellsOf 24) = [c0, c1] := by rw [show Tryz.prog.cellsOf 24 = 2 by kernel_rfl]; rfl
 have e1 : (([c0, c1, c2, c3] : List Value).drop 2).take (Tryz.prog.cellsOf 24) = [c2, c3] := by rw [show Tryz.prog.cellsOf 24 = 2 by kernel_rfl]; rfl
 have h0 : DataW.trod enc Tryz.prog W base spare held m 24 [c0, c1] = some y0 := by rw [← e0]; exact h0'
 have h1 : DataW.trod enc Tryz.prog W base spare held m 24 [c2, c3] = some y1 := by rw [← e1]; exact h1'
 obtain ⟨na, A, xs, c, e2, m1⟩ := int_cells rfl h0
 obtain ⟨nb, B, ys, e, e3, m2⟩ := int_cells rfl h1
 simp only [List.cons.injEq, and_true] at e2 e3
 obtain ⟨rfl, rfl⟩ := e2
 obtain ⟨rfl, rfl⟩ := e3
 exact ⟨na, nb, A, B, xs, ys, c, e, rfl, m1, m2⟩
end
end Go.Proofs.YtfdmlfpldgobjaaGreatDoor
