/- The frame of the statements' proofs: what the arguments and the listed tables give the walks. Conditions: none. -/
import Derived.Test.YtkfpcohdbbhmaaaDoorBi27
import Derived.Test.YtkfpcohdbbhmaaaDoorBi25
import Derived.Test.YtkfpcohdbbhmaaaDoorRows
import Derived.ProofKit
import Derived.OpenShut
import Derived.ShutString
import Derived.ChangeOld
import Derived.LaidMore
import Derived.Lay
import Derived.Stop.Joined
import Derived.Stop.LaidErr
import Derived.Lib.SmallJoins
import Derived.Lib.LaidTab
set_option linter.unusedVariables false
set_option linter.unusedSimpArgs false
namespace Go.Proofs.YtkfpcohdbbhmaaaDoor
open Go.ChangeShapes Go.WideShapes Go.ChangeAt Go.RowKit Go.Deep Go.Joins
set_option linter.unusedVariables false

theorem own : ownKnob Tryd.prog.godebug = none := by kernel_rfl
theorem laidOut : laidOutB Tryd.prog = true := by kernel_rfl

theorem pow_of_laid {W : World} (h : laidMetH Tryd.prog Rows.bigintRingRow.laid W) : PowTab W := by
  have h0 : laidMetH Tryd.prog [("math/bits.deBruijn32tab", Rows.laid_math_bits_deBruijn32tab), ("math/bits.deBruijn64tab", Rows.laid_math_bits_deBruijn64tab), ("internal/strconv.uint64pow10", Rows.laid_internal_strconv_uint64pow10)] W := h
  rw [MakeChecks.laidMetH_plain _ _ _ (by kernel_rfl)] at h0
  exact Lib.tabIs_of_head (g := 0) (t := 116) (e := 65) (n := 20) (rest := []) (by kernel_rfl) (by kernel_rfl) Tryd.underlying116 Tryd.underlying65 (by kernel_rfl) (by kernel_rfl) h0.tail.tail

section
variable {H : Type} {enc : TypeId × Value → H} {W : World} {b0 base : Nat} {r : Reach} {spare : Nat → Bool} {held : Bool}

/-- a list of ints that came in -/
structure Ls (w : World) (A : Option Addr) (c : Nat) (l : List Int) : Prop where
  cap : l.length ≤ c
  max : c ≤ maxLen
  ok : ∀ n ∈ l, -9223372036854775808 ≤ n ∧ n ≤ 9223372036854775807
  rd : Rd di w A l

/-- a slice of one-cell integers that came in -/
theorem rd_of_ints {k : IntKind} {zs : List Int} {x : Addr} (hc : ∀ i, i < zs.length → W.cell? (x.add i) = some (.int k (zs.getD i 0))) (n : Nat) (hn : n ≤ zs.length) {α : Type} (f : α → Value) (l : List α) (hl : l.length = n) (hf : ∀ i (h : i < l.length), f l[i] = .int k (zs.getD i 0)) : Rd f W (some x) l := by
  intro h0
  obtain ⟨b, o, s⟩ := x
  have h1 := hc 0 (by omega)
  obtain rfl : s = none := by simpa [Addr.add] using World.cell?_spot h1
  refine ⟨b, o, rfl, ?_, fun j hj => ?_⟩
  · have h2 : W.cell? ⟨b, o, none⟩ = some (.int k (zs.getD 0 0)) := by simpa [Addr.add] using h1
    rcases Nat.lt_or_ge b W.heap.size with h3 | h3
    · exact h3
    · simp [World.cell?, Array.getElem?_eq_none h3] at h2
  · rw [hf j hj]
    have h4 := hc j (by omega)
    have e : (⟨b, o, none⟩ : Addr).add j = ⟨b, o + j, none⟩ := by simp [Addr.add]
    rw [e] at h4
    exact h4

set_option maxRecDepth 100000 in
theorem open_Int {v : Value} {d : DataW H} {p : List MemPlace} (hv : Value.okWide Tryd.prog W r b0 24 v) (h : DataW.Trod enc Tryd.prog W base spare held 24 v d p) :
    ∃ (neg : Bool) (A : Option Addr) (xs : List Nat) (c : Nat), v = .agg #[.bool neg, .slice A xs.length c] ∧ Mg W A c xs := by
  obtain ⟨c0, c1, y0, y1, m, rfl, rfl, rfl, h0, h1⟩ := open_agg2 Tryd.underlying24 (by kernel_rfl) (by kernel_rfl) hv h
  obtain ⟨neg, e0, _⟩ := DataW.trod_bool Tryd.underlying4 h0
  simp only [List.cons.injEq, and_true] at e0
  subst e0
  rcases open_ints Tryd.underlying22 Tryd.underlying57 (by kernel_rfl) h1 with ⟨hcs, _⟩ | ⟨x, l, c, zs, hcs, _, hl, hm, hz, _, hcell, hwz⟩
  · simp only [List.cons.injEq, and_true] at hcs
    subst hcs
    exact ⟨neg, none, [], 0, rfl, by simp, by omega, by intro x hx; simp at hx, Rd.nil _ _⟩
  · simp only [List.cons.injEq, and_true] at hcs
    subst hcs
    have hzl : l ≤ zs.length := by rw [hz]; split <;> omega
    have hwf : ∀ n ∈ zs, 0 ≤ n ∧ n < 4294967296 := fun n hn => by
      have := hwz n hn
      simp [Lit.wf, IntKind.min, IntKind.max, IntKind.signed, IntKind.bits] at this
      omega
    refine ⟨neg, some x, (zs.take l).map Int.toNat, c, by simp [Nat.min_eq_left hzl], by simp [Nat.min_eq_left hzl]; exact hl, by unfold maxLen at hm; omega, ?_, ?_⟩
    · intro n hn
      obtain ⟨z, hz1, rfl⟩ := List.mem_map.1 hn
      have := hwf z (List.mem_of_mem_take hz1)
      omega
    · refine rd_of_ints hcell l hzl lim _ (by simp [Nat.min_eq_left hzl]) (fun i hi => ?_)
      have hi' : i < zs.length := by simp at hi; omega
      have h9 := hwf zs[i] (List.getElem_mem hi')
      have e1 : ((zs.take l).map Int.toNat)[i] = (zs[i]).toNat := by simp
      have e2 : zs.getD i 0 = zs[i] := by simp [List.getD, List.getElem?_eq_getElem hi']
      rw [e1, e2]
      unfold lim
      rw [Int.toNat_of_nonneg h9.1]

set_option maxRecDepth 100000 in
theorem open_List {v : Value} {d : DataW H} {p : List MemPlace} (hv : Value.okWide Tryd.prog W r b0 42 v) (h : DataW.Trod enc Tryd.prog W base (fun _ => true) held 42 v d p) :
    ∃ (A : Option Addr) (l : List Int) (c : Nat), v = .slice A l.length c ∧ Ls W A c l := by
  obtain ⟨a0, len0, cap0, rfl⟩ := okWide_slice Tryd.underlying42 hv
  obtain ⟨fuel, hf⟩ := h
  rcases open_ints Tryd.underlying42 Tryd.underlying3 (by kernel_rfl) hf with ⟨hcs, _⟩ | ⟨x, l, c, zs, hcs, _, hl, hm, hz, _, hcell, hwz⟩
  · simp [Value.cells] at hcs
    obtain ⟨rfl, rfl, rfl⟩ := hcs
    exact ⟨none, [], 0, rfl, by simp, by simp [maxLen], by simp, Rd.nil _ _⟩
  · simp [Value.cells] at hcs
    obtain ⟨rfl, rfl, rfl⟩ := hcs
    have hzl : len0 ≤ zs.length := by simp at hz; omega
    refine ⟨some x, zs.take len0, cap0, by simp [Nat.min_eq_left hzl], by simp [Nat.min_eq_left hzl]; exact hl, hm, ?_, ?_⟩
    · intro n hn
      have := hwz n (List.mem_of_mem_take hn)
      simp [Lit.wf, IntKind.min, IntKind.max, IntKind.signed, IntKind.bits] at this
      omega
    · refine rd_of_ints hcell len0 hzl di _ (by simp [Nat.min_eq_left hzl]) (fun i hi => ?_)
      have hi' : i < zs.length := by simp at hi; omega
      have e2 : zs.getD i 0 = zs[i] := by simp [List.getD, List.getElem?_eq_getElem hi']
      rw [e2]
      simp [di]
end
end Go.Proofs.YtkfpcohdbbhmaaaDoor
