/- Integers: the walk of Pow. Conditions: none. -/
import Derived.Test.YtgnfobnkhjlbbaaZBiD
import Derived.Test.YtgnfobnkhjlbbaaZNtA
import Derived.Test.YtgnfobnkhjlbbaaSh1
import Derived.Laws.IdiomCopy
import Derived.Lib.EndianMore
import Derived.Test.YtgnfobnkhjlbbaaSh2
import Derived.Lib.OthersKept
set_option linter.unusedVariables false
set_option linter.unusedSimpArgs false
namespace Go.Proofs.Ytgnfobnkhjlbbaa
open Go.RowKit Big
end Go.Proofs.Ytgnfobnkhjlbbaa
/- Integers: the walk of Digits. Conditions: none. -/
namespace Go.Proofs.Ytgnfobnkhjlbbaa
open Go.RowKit Big
theorem Mg.grown {w w' : World} {A : Option Addr} {c : Nat} {xs : List Nat} {row : Option Nat} (h : Mg w A c xs) (hg : w.grownBy w' row) (hne : 0 < xs.length → ∀ p, A = some p → some p.block ≠ row) : Mg w' A c xs :=
  ⟨h.cap, h.max, h.ok, fun hl => by
    obtain ⟨b, o, e, hB, hc⟩ := h.rd hl
    exact ⟨b, o, e, Nat.lt_of_lt_of_le hB hg.size, fun j hj => (World.cell?_of_block (a := ⟨b, o + j, none⟩) (hg.block b hB (hne hl _ e))).trans (hc j hj)⟩⟩
end Go.Proofs.Ytgnfobnkhjlbbaa
/- Integers: the walk of FromDigits. Conditions: none. -/
namespace Go.Proofs.Ytgnfobnkhjlbbaa
open Go.RowKit Big
def okD (b : Nat) (l : List Int) : Prop := ∀ d ∈ l, 0 ≤ d ∧ d < (b : Int)
instance (b : Nat) (l : List Int) : Decidable (okD b l) := inferInstanceAs (Decidable (∀ d ∈ l, 0 ≤ d ∧ d < (b : Int)))
end Go.Proofs.Ytgnfobnkhjlbbaa
/- Integers: the walk of Parse. Conditions: none. -/
namespace Go.Proofs.Ytgnfobnkhjlbbaa
open Go.RowKit Big

def digit (x : UInt8) : Prop := 48 ≤ x.toNat ∧ x.toNat ≤ 57
instance (x : UInt8) : Decidable (digit x) := inferInstanceAs (Decidable (_ ∧ _))
end Go.Proofs.Ytgnfobnkhjlbbaa
