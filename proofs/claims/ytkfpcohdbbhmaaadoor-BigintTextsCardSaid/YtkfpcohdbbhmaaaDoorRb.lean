/- Package bigint and the reference give the same results. Conditions: none. -/
import Derived.Test.YtkfpcohdbbhmaaaDoorR9
namespace Go.Proofs.YtkfpcohdbbhmaaaDoor
set_option linter.unusedVariables false
set_option linter.unusedSimpArgs false
open Go.RowKit Big

theorem RetZE.g {w w' : World} {z err : Int} {b : Bool} {n : Nat} {L : List Nat} {e : Ending} (h : RetZE w z err e w') (I : Iz z b n L) : GZE w b n L err e w' := by
  obtain ⟨rfl, rfl, rfl⟩ := I; exact h
theorem RetZ.g {w w' : World} {z : Int} {b : Bool} {n : Nat} {L : List Nat} {e : Ending} (h : RetZ w z e w') (I : Iz z b n L) : GZ w b n L e w' := by
  obtain ⟨rfl, rfl, rfl⟩ := I; exact h
theorem RetDM.g {w w' : World} {z r err : Int} {b b' : Bool} {n n' : Nat} {L L' : List Nat} {e : Ending} (h : RetDM w z r err e w') (I : Iz z b n L) (I' : Iz r b' n' L') : GDM w b n L b' n' L' err e w' := by
  obtain ⟨rfl, rfl, rfl⟩ := I; obtain ⟨rfl, rfl, rfl⟩ := I'; exact h
theorem allg {P : World → Prop} {f : FuncId} {args : Array Value} {Q Q' : World → Ending → World → Prop} (H : Hid (∀ w1, P w1 → Calls Tryd.prog f args w1 (Q w1))) (h : ∀ w1 e w', Q w1 e w' → Q' w1 e w') : Hid (∀ w1, P w1 → Calls Tryd.prog f args w1 (Q' w1)) :=
  fun w1 p => (H.out w1 p).mono fun e w' q => h w1 e w' q

theorem Mul_both {na nb : Bool} {xs ys : List Nat} {A B : Option Addr} {c d : Nat} {w : World} (ha : Mg w A c xs) (hb : Mg w B d ys) :
    ∃ z err, Hid (∀ w1, Below w.heap.size w w1 → Calls Tryd.prog 27 #[.agg #[.bool na, .slice A xs.length c], .agg #[.bool nb, .slice B ys.length d]] w1 (RetZE w1 z err)) ∧ Hid (∀ w1, Below w.heap.size w w1 → Calls Tryd.prog 28 #[.agg #[.bool na, .slice A xs.length c], .agg #[.bool nb, .slice B ys.length d]] w1 (RetZE w1 z err)) := by
  cases h1 : validB na xs
  · exact ⟨0, 1, fun w1 h => Mul_bad1 na nb xs ys A B c d w1 (ha.below h) h1, fun w1 h => RMul_bad1 na nb xs ys A B c d w1 (ha.below h) h1⟩
  · obtain ⟨x, rfl, rfl, fx⟩ := valid_z ha.ok h1
    cases h2 : validB nb ys
    · exact ⟨0, 1, fun w1 h => Mul_bad2 x nb ys A B c d w1 (ha.below h) (hb.below h) fx h2, fun w1 h => RMul_bad2 x nb ys A B c d w1 (ha.below h) (hb.below h) fx h2⟩
    · obtain ⟨y, rfl, rfl, fy⟩ := valid_z hb.ok h2
      exact ⟨_, _, fun w1 h => Mul_ok x y A B c d w1 (ha.below h) (hb.below h) fx fy, fun w1 h => RMul_ok x y A B c d w1 (ha.below h) (hb.below h) fx fy⟩

theorem Add_both {na nb : Bool} {xs ys : List Nat} {A B : Option Addr} {c d : Nat} {w : World} (ha : Mg w A c xs) (hb : Mg w B d ys) :
    ∃ z err, Hid (∀ w1, Below w.heap.size w w1 → Calls Tryd.prog 40 #[.agg #[.bool na, .slice A xs.length c], .agg #[.bool nb, .slice B ys.length d]] w1 (RetZE w1 z err)) ∧ Hid (∀ w1, Below w.heap.size w w1 → Calls Tryd.prog 45 #[.agg #[.bool na, .slice A xs.length c], .agg #[.bool nb, .slice B ys.length d]] w1 (RetZE w1 z err)) := by
  cases h1 : validB na xs
  · exact ⟨0, 1, fun w1 h => Add_bad1 na nb xs ys A B c d w1 (ha.below h) h1, fun w1 h => RAdd_bad1 na nb xs ys A B c d w1 (ha.below h) h1⟩
  · obtain ⟨x, rfl, rfl, fx⟩ := valid_z ha.ok h1
    cases h2 : validB nb ys
    · exact ⟨0, 1, fun w1 h => Add_bad2 x nb ys A B c d w1 (ha.below h) (hb.below h) fx h2, fun w1 h => RAdd_bad2 x nb ys A B c d w1 (ha.below h) (hb.below h) fx h2⟩
    · obtain ⟨y, rfl, rfl, fy⟩ := valid_z hb.ok h2
      exact ⟨_, _, fun w1 h => Add_ok x y A B c d w1 (ha.below h) (hb.below h) fx fy, fun w1 h => RAdd_ok x y A B c d w1 (ha.below h) (hb.below h) fx fy⟩

theorem GCD_both {na nb : Bool} {xs ys : List Nat} {A B : Option Addr} {c d : Nat} {w : World} (ha : Mg w A c xs) (hb : Mg w B d ys) :
    ∃ z err, Hid (∀ w1, Below w.heap.size w w1 → Calls Tryd.prog 17 #[.agg #[.bool na, .slice A xs.length c], .agg #[.bool nb, .slice B ys.length d]] w1 (RetZE w1 z err)) ∧ Hid (∀ w1, Below w.heap.size w w1 → Calls Tryd.prog 18 #[.agg #[.bool na, .slice A xs.length c], .agg #[.bool nb, .slice B ys.length d]] w1 (RetZE w1 z err)) := by
  cases h1 : validB na xs
  · exact ⟨0, 1, fun w1 h => GCD_bad1 na nb xs ys A B c d w1 (ha.below h) h1, fun w1 h => RGCD_bad1 na nb xs ys A B c d w1 (ha.below h) h1⟩
  · obtain ⟨x, rfl, rfl, fx⟩ := valid_z ha.ok h1
    cases h2 : validB nb ys
    · exact ⟨0, 1, fun w1 h => GCD_bad2 x nb ys A B c d w1 (ha.below h) (hb.below h) fx h2, fun w1 h => RGCD_bad2 x nb ys A B c d w1 (ha.below h) (hb.below h) fx h2⟩
    · obtain ⟨y, rfl, rfl, fy⟩ := valid_z hb.ok h2
      exact ⟨_, _, fun w1 h => GCD_ok x y A B c d w1 (ha.below h) (hb.below h) fx fy, fun w1 h => RGCD_ok x y A B c d w1 (ha.below h) (hb.below h) fx fy⟩

theorem Sub_both {na nb : Bool} {xs ys : List Nat} {A B : Option Addr} {c d : Nat} {w : World} (ha : Mg w A c xs) (hb : Mg w B d ys) :
    ∃ z err, Hid (∀ w1, Below w.heap.size w w1 → Calls Tryd.prog 42 #[.agg #[.bool na, .slice A xs.length c], .agg #[.bool nb, .slice B ys.length d]] w1 (RetZE w1 z err)) ∧ Hid (∀ w1, Below w.heap.size w w1 → Calls Tryd.prog 46 #[.agg #[.bool na, .slice A xs.length c], .agg #[.bool nb, .slice B ys.length d]] w1 (RetZE w1 z err)) := by
  cases h2 : validB nb ys
  · have h := fun w1 h => RSub_bad2 na nb xs ys A B c d w1 (hb.below h) h2
    cases h1 : validB na xs
    · exact ⟨0, 1, fun w1 h => Sub_bad1 na nb xs ys A B c d w1 (ha.below h) h1, h⟩
    · obtain ⟨x, rfl, rfl, fx⟩ := valid_z ha.ok h1
      exact ⟨0, 1, fun w1 h => Sub_bad2 x nb ys A B c d w1 (ha.below h) (hb.below h) fx h2, h⟩
  · obtain ⟨y, rfl, rfl, fy⟩ := valid_z hb.ok h2
    cases h1 : validB na xs
    · exact ⟨0, 1, fun w1 h => Sub_bad1 na _ xs _ A B c d w1 (ha.below h) h1, fun w1 h => RSub_bad1 na y xs A B c d w1 (ha.below h) (hb.below h) fy h1⟩
    · obtain ⟨x, rfl, rfl, fx⟩ := valid_z ha.ok h1
      exact ⟨_, _, fun w1 h => Sub_ok x y A B c d w1 (ha.below h) (hb.below h) fx fy, fun w1 h => RSub_ok x y A B c d w1 (ha.below h) (hb.below h) fx fy⟩

theorem DivMod_both {na nb : Bool} {xs ys : List Nat} {A B : Option Addr} {c d : Nat} {w : World} (ha : Mg w A c xs) (hb : Mg w B d ys) :
    ∃ q r err, Hid (∀ w1, Below w.heap.size w w1 → Calls Tryd.prog 15 #[.agg #[.bool na, .slice A xs.length c], .agg #[.bool nb, .slice B ys.length d]] w1 (RetDM w1 q r err)) ∧ Hid (∀ w1, Below w.heap.size w w1 → Calls Tryd.prog 16 #[.agg #[.bool na, .slice A xs.length c], .agg #[.bool nb, .slice B ys.length d]] w1 (RetDM w1 q r err)) := by
  cases h1 : validB na xs
  · exact ⟨0, 0, 1, fun w1 h => DivMod_bad1 na nb xs ys A B c d w1 (ha.below h) h1, fun w1 h => RDivMod_bad1 na nb xs ys A B c d w1 (ha.below h) h1⟩
  · obtain ⟨x, rfl, rfl, fx⟩ := valid_z ha.ok h1
    cases h2 : validB nb ys
    · exact ⟨0, 0, 1, fun w1 h => DivMod_bad2 x nb ys A B c d w1 (ha.below h) (hb.below h) fx h2, fun w1 h => RDivMod_bad2 x nb ys A B c d w1 (ha.below h) (hb.below h) fx h2⟩
    · obtain ⟨y, rfl, rfl, fy⟩ := valid_z hb.ok h2
      by_cases hy : y = 0
      · subst hy
        exact ⟨0, 0, 12, fun w1 h => DivMod_zero x A B c d w1 (ha.below h) (hb.below h) fx, fun w1 h => RDivMod_zero x A B c d w1 (ha.below h) (hb.below h) fx⟩
      · exact ⟨_, _, _, fun w1 h => DivMod_ok x y A B c d w1 (ha.below h) (hb.below h) fx fy hy, fun w1 h => RDivMod_ok x y A B c d w1 (ha.below h) (hb.below h) fx fy hy⟩

theorem Neg_both {na : Bool} {xs : List Nat} {A : Option Addr} {c : Nat} {w : World} (ha : Mg w A c xs) :
    ∃ z, Hid (∀ w1, Below w.heap.size w w1 → Calls Tryd.prog 43 #[.agg #[.bool na, .slice A xs.length c]] w1 (RetZ w1 z)) ∧ Hid (∀ w1, Below w.heap.size w w1 → Calls Tryd.prog 47 #[.agg #[.bool na, .slice A xs.length c]] w1 (RetZ w1 z)) := by
  cases h1 : validB na xs
  · exact ⟨0, fun w1 h => Neg_bad na xs A c w1 (ha.below h) h1, fun w1 h => RNeg_bad na xs A c w1 (ha.below h) h1⟩
  · obtain ⟨x, rfl, rfl, fx⟩ := valid_z ha.ok h1
    exact ⟨_, fun w1 h => Neg_ok x A c w1 (ha.below h) fx, fun w1 h => RNeg_ok x A c w1 (ha.below h) fx⟩

theorem Cmp_both {na nb : Bool} {xs ys : List Nat} {A B : Option Addr} {c d : Nat} {w : World} (ha : Mg w A c xs) (hb : Mg w B d ys) :
    ∃ k, Hid (∀ w1, Below w.heap.size w w1 → Calls Tryd.prog 44 #[.agg #[.bool na, .slice A xs.length c], .agg #[.bool nb, .slice B ys.length d]] w1 (RetI w1 k)) ∧ Hid (∀ w1, Below w.heap.size w w1 → Calls Tryd.prog 48 #[.agg #[.bool na, .slice A xs.length c], .agg #[.bool nb, .slice B ys.length d]] w1 (RetI w1 k)) := by
  cases h1 : validB na xs
  · exact ⟨0, fun w1 h => Cmp_bad1 na nb xs ys A B c d w1 (ha.below h) h1, fun w1 h => RCmp_bad1 na nb xs ys A B c d w1 (ha.below h) h1⟩
  · obtain ⟨x, rfl, rfl, fx⟩ := valid_z ha.ok h1
    cases h2 : validB nb ys
    · exact ⟨0, fun w1 h => Cmp_bad2 x nb ys A B c d w1 (ha.below h) (hb.below h) fx h2, fun w1 h => RCmp_bad2 x nb ys A B c d w1 (ha.below h) (hb.below h) fx h2⟩
    · obtain ⟨y, rfl, rfl, fy⟩ := valid_z hb.ok h2
      exact ⟨_, fun w1 h => Cmp_ok x y A B c d w1 (ha.below h) (hb.below h) fx fy, fun w1 h => RCmp_ok x y A B c d w1 (ha.below h) (hb.below h) fx fy⟩
end Go.Proofs.YtkfpcohdbbhmaaaDoor
