/- A region that draws its order and whose last store hits a cell that the region loads: the condition on the world need not hold behind the store, which waits for all. Conditions: none. -/
import Derived.Deep.RegionHeld3
import Derived.Test.YtjfgklhifhaaoaaZRd0
set_option linter.unusedVariables false
set_option linter.unusedSimpArgs false
namespace Go.Proofs.Ytjfgklhifhaaoaa
open Go.RowKit
theorem Lp0 {α : Type} {l : List α} {i : Nat} {a : α} : l.toArray.setIfInBounds i a = (l.set i a).toArray := by simp only [List.setIfInBounds_toArray]
theorem Lp1 {α : Type} {x : α} {xs : List α} {a : α} : (x :: xs).set 0 a = a :: xs := rfl
theorem Lp2 {α : Type} {x : α} {xs : List α} {i : Nat} {a : α} : (x :: xs).set (i + 1) a = x :: xs.set i a := rfl
section
variable {P : Program} {ops : Array Oper} {Q : Exit → Act → World → Prop} {md : Region.Mode} {S : World → Prop} {x : Nat}
/-- whatever order comes: behind each operation but number x the condition holds -/
def Ords (P : Program) (md : Region.Mode) (ops : Array Oper) (Q : Exit → Act → World → Prop) (S : World → Prop) (x : Nat) : Nat → Array Bool → Act → World → Prop
 | 0, d, a, w => Region.ready md ops d = [] ∧ Q .normal a w
 | n + 1, d, a, w => (Region.ready md ops d = [] → Q .normal a w) ∧ ∀ i ∈ Region.ready md ops d, wpOp P ops Q i (fun b v => (i ≠ x → S v) ∧ Ords P md ops Q S x n (d.setIfInBounds i true) b v) a w
theorem Ords.any : ∀ (n : Nat) (d : Array Bool) (a : Act) (w : World), Ords P md ops Q S x n d a w → wpAny P md ops Q n d a w
 | 0, _, _, _, h => h
 | n + 1, _, _, _, h => ⟨h.1, fun i hi => wpOp_mono (fun b v k => Ords.any n _ b v k.2) (h.2 i hi)⟩
/-- number x waits for number i -/
def waitsFor (md : Region.Mode) (ops : Array Oper) (x i : Nat) : Bool := match ops[x]? with
 | none => false
 | some o => o.after.any fun e => Region.binds md e && e.on == i
theorem not_both {d : Array Bool} {i j : Nat} (hw : waitsFor md ops x i = true) (hi : i ∈ Region.ready md ops d) (hj : j ∈ Region.ready md ops d) : j ≠ x := by
 rintro rfl
 unfold waitsFor at hw
 obtain ⟨_, o, ho, hall⟩ := mem_ready.1 hj
 rw [ho] at hw
 obtain ⟨e, he, hb⟩ := Array.any_eq_true'.1 hw
 simp only [Bool.and_eq_true, beq_iff_eq] at hb
 have h1 := hall e he hb.1
 have h0 := (mem_ready.1 hi).1
 rw [hb.2] at h1
 by_cases hs : i < d.size
 ·simp [hs] at h0 h1
  rw [h0] at h1
  cases h1
 ·simp [hs] at h1
theorem Ords.first {i : Nat} {o : Oper} {v : Value} (hi : ops[i]? = some o) (hns : Region.noSelect ops = true) (hw : waitsFor md ops x i = true)
  (hQ : ∀ c a w, Q (.panic c) (a.put o.dst v) w → Q (.panic c) a w) : ∀ (n : Nat) (d : Array Bool) (a : Act) (w : World),
   (∀ j oj, ops[j]? = some oj → j ≠ i → d.getD j true = false → (∀ e ∈ oj.after, Region.binds md e = true → e.on ≠ i) → o.apart ops oj = true) →
   i ∈ Region.ready md ops d → YieldsIf P ops S o v a → S w → Ords P md ops Q S x n (d.setIfInBounds i true) (a.put o.dst v) w → Ords P md ops Q S x (n + 1) d a w := by
 have hsel := Region.noSelect_spec hns
 intro n
 induction n with
 | zero =>
  intro d a w _ hr hy hS H
  refine ⟨fun h => (by rw [h] at hr; cases hr), fun j hj => ?_⟩
  by_cases hji : j = i
  ·subst hji
   exact hy.wpOp hi hS ⟨fun _ => hS, H⟩
  ·have := ready_mono hj hji
   rw [H.1] at this
   cases this
 | succ n ih =>
  intro d a w hfree hr hy hS H
  refine ⟨fun h => (by rw [h] at hr; cases hr), fun j hj => ?_⟩
  by_cases hji : j = i
  ·subst hji
   exact hy.wpOp hi hS ⟨fun _ => hS, H⟩
  ·have hjx := not_both hw hr hj
   have h1 := H.2 j (ready_mono hj hji)
   obtain ⟨hun, oj, hoj, hall⟩ := mem_ready.1 hj
   have hno : ∀ e ∈ oj.after, Region.binds md e = true → e.on ≠ i := fun e he hb heq => by
    have h1 := hall e he hb
    have h0 := (mem_ready.1 hr).1
    rw [heq] at h1
    by_cases hs : i < d.size
    ·simp [hs] at h0 h1
     rw [h0] at h1
     cases h1
    ·simp [hs] at h1
   have h2 := wpOp_putIf hoj (hfree j oj hoj hji hun hno) (fun cs b => hsel i o cs b hi) (fun cs b => hsel j oj cs b hoj) hQ hy h1
   have hfree' : ∀ k ok, ops[k]? = some ok → k ≠ i → (d.setIfInBounds j true).getD k true = false → (∀ e ∈ ok.after, Region.binds md e = true → e.on ≠ i) → o.apart ops ok = true := fun k ok hk hki hu hn => by
    refine hfree k ok hk hki ?_ hn
    by_cases hjk : j = k
    ·subst hjk; exact hun
    ·rwa [getD_set_ne true hjk] at hu
   refine wpOp_mono (fun b u h3 => ⟨fun _ => h3.2.1 hjx, ih _ b u hfree' (ready_mono hr (Ne.symm hji)) h3.1 (h3.2.1 hjx) ?_⟩) h2
   rw [Array.setIfInBounds_comm _ _ hji]
   exact h3.2.2
theorem Ords.take {i : Nat} {o : Oper} {v : Value} {n : Nat} {d : Array Bool} {a : Act} {w : World} (hi : ops[i]? = some o) (hs : Region.noSelect ops = true) (hf : Region.free md ops d i = true)
  (hr : (Region.ready md ops d).contains i = true) (hw : waitsFor md ops x i = true) (hQ : ∀ c a w, Q (.panic c) (a.put o.dst v) w → Q (.panic c) a w) (hy : YieldsIf P ops S o v a) (hS : S w)
  (h : Ords P md ops Q S x n (d.setIfInBounds i true) (a.put o.dst v) w) : Ords P md ops Q S x (n + 1) d a w :=
 Ords.first hi hs hw hQ n d a w (Region.free_spec hi hf) (by simpa using hr) hy hS h
/-- number i alone may come -/
theorem Ords.step {i : Nat} {o : Oper} {n : Nat} {d : Array Bool} {a : Act} {w : World} (hr : Region.ready md ops d = [i]) (ho : ops[i]? = some o)
  (h : ∀ K : Act → World → Prop, Shut (∀ b v, (S v) → (S v → Ords P md ops Q S x n (d.setIfInBounds i true) b v) → K b v) → if Region.wanted o (yielded ops a.tmps) = true then Oper.wp P o a w K Q else K (a.put o.dst undef) w) :
  Ords P md ops Q S x (n + 1) d a w := by
 refine ⟨fun h0 => (by rw [hr] at h0; cases h0), fun j hj => ?_⟩
 rw [hr] at hj
 obtain rfl : j = i := by simpa using hj
 exact wpOp_step ho fun K hK => h K fun b v hS hW => hK b v ⟨fun _ => hS, hW hS⟩
/-- number x, the last one -/
theorem Ords.last {o : Oper} {n : Nat} {d : Array Bool} {a : Act} {w : World} (hr : Region.ready md ops d = [x]) (ho : ops[x]? = some o) (hd : Region.ready md ops (d.setIfInBounds x true) = [])
  (h : ∀ K : Act → World → Prop, Shut (∀ b v, Q .normal b v → K b v) → if Region.wanted o (yielded ops a.tmps) = true then Oper.wp P o a w K Q else K (a.put o.dst undef) w) :
  Ords P md ops Q S x (n + 1) d a w := by
 refine ⟨fun h0 => (by rw [hr] at h0; cases h0), fun j hj => ?_⟩
 rw [hr] at hj
 obtain rfl : j = x := by simpa using hj
 refine wpOp_step ho fun K hK => h K fun b v hq => hK b v ⟨fun h => absurd rfl h, ?_⟩
 cases n with
 | zero => exact ⟨hd, hq⟩
 | succ n => exact ⟨fun _ => hq, by rw [hd]; simp⟩
/-- the beginning -/
theorem Ords.start {id : Nat} {a : Act} {w : World} (hm : P.follows .mixedOrders = true) (hS : S w.drew)
  (h : S w.drew → Ords P .any ops Q S x ops.size (Array.replicate ops.size false) a w.drew) : (Code.region id ops true).wp P Q a w :=
 wp_region_any hm (Ords.any _ _ _ _ (h hS))
end
end Go.Proofs.Ytjfgklhifhaaoaa
