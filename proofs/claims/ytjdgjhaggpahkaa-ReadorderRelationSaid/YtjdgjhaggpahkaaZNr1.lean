/- Reading order: the order of boxes, in plain lists. Conditions: none. -/
set_option linter.unusedVariables false
set_option linter.unusedSimpArgs false
namespace Go.Proofs.Ytjdgjhaggpahkaa
structure Bx where
 x : Int
 y : Int
 w : Int
 h : Int
deriving DecidableEq, Inhabited
/-- a valid box -/
def okB (b : Bx) : Bool := decide (-4096 ≤ b.x ∧ b.x ≤ 4096 ∧ -4096 ≤ b.y ∧ b.y ≤ 4096 ∧ 1 ≤ b.w ∧ b.w ≤ 4096 ∧ 1 ≤ b.h ∧ b.h ≤ 4096)
/-- a comes before b -/
def befB (a b : Bx) : Bool :=
 if okB a && okB b then (if a.y < b.y + b.h ∧ b.y < a.y + a.h then decide (a.x < b.x ∨ a.x = b.x ∧ a.y < b.y) else decide (a.y < b.y)) else false
def chkB (l : List Bx) (gap : Int) : Int :=
 if 4096 < l.length then 4 else if gap < 0 ∨ 4096 < gap ∨ (l.any fun b => !okB b) then 3 else 0
/-- no box that is left comes before the i-th -/
def freeB (l : List Bx) (out : List Nat) (i : Nat) : Bool := (List.range l.length).all fun k => out.contains k || !befB (l.getD k default) (l.getD i default)
def nextB (l : List Bx) (out : List Nat) : Option Nat := (List.range l.length).find? fun i => !out.contains i && freeB l out i
/-- the order, from what is out on -/
def sortB (l : List Bx) : Nat → List Nat → Option (List Nat)
 | 0, out => some out
 | f + 1, out => match nextB l out with
  | none => none
  | some i => sortB l f (out ++ [i])
/-- the number of boxes left that come before the i-th -/
def cntB (l : List Bx) (out : List Nat) (i : Nat) : Nat := ((List.range l.length).filter fun k => !out.contains k && befB (l.getD k default) (l.getD i default)).length
theorem bo_and (a b : Bool) : (¬ ((!a && b) = true)) ↔ ((a || !b) = true) := by cases a <;> cases b <;> simp
theorem cnt_zero {l : List Bx} {out : List Nat} {i : Nat} : cntB l out i = 0 ↔ freeB l out i = true := by
 unfold cntB freeB
 rw [List.length_eq_zero_iff, List.filter_eq_nil_iff, List.all_eq_true]
 exact forall_congr' fun k => forall_congr' fun _ => bo_and _ _
theorem filt_out (p : Nat → Bool) (j : Nat) (out : List Nat) (hj : out.contains j = false) : ∀ (L : List Nat), L.Nodup → j ∈ L →
  (L.filter fun k => !out.contains k && p k).length = (L.filter fun k => !(out ++ [j]).contains k && p k).length + (if p j then 1 else 0)
 | a :: L, hn, hm => by
  rw [List.nodup_cons] at hn
  by_cases ha : a = j
  ·subst ha
   have e : (L.filter fun k => !out.contains k && p k) = (L.filter fun k => !(out ++ [a]).contains k && p k) := by
    apply List.filter_congr
    intro x hx
    have : x ≠ a := fun e => hn.1 (e ▸ hx)
    simp [this]
   rw [List.filter_cons, List.filter_cons, e]
   have hc : out.contains a = false := hj
   have h2 : (out ++ [a]).contains a = true := by simp
   rw [hc, h2]
   cases p a <;> simp
  ·have hm2 : j ∈ L := by
    rcases List.mem_cons.1 hm with h | h
    ·exact absurd h.symm ha
    ·exact h
   have ih := filt_out p j out hj L hn.2 hm2
   have h3 : (out ++ [j]).contains a = out.contains a := by
    simp [ha]
   rw [List.filter_cons, List.filter_cons, h3]
   split
   ·simp only [List.length_cons]; omega
   ·exact ih
theorem cnt_step {l : List Bx} {out : List Nat} {i j : Nat} (hj : j < l.length) (hjo : out.contains j = false) :
  cntB l out i = cntB l (out ++ [j]) i + (if befB (l.getD j default) (l.getD i default) then 1 else 0) := by
 unfold cntB
 exact filt_out (fun k => befB (l.getD k default) (l.getD i default)) j out hjo _ List.nodup_range (List.mem_range.2 hj)
theorem next_some {l : List Bx} {out : List Nat} {i : Nat} (h1 : i < l.length) (h2 : out.contains i = false) (h3 : cntB l out i = 0) (h4 : ∀ k, k < i → out.contains k = false → cntB l out k ≠ 0) : nextB l out = some i := by
 unfold nextB
 rw [List.find?_eq_some_iff_append]
 refine ⟨by simp only [h2, cnt_zero.1 h3]; rfl, List.range i, (List.range (l.length - i - 1)).map (· + (i + 1)), ?_, ?_⟩
 ·have h5 : l.length = i + (1 + (l.length - i - 1)) := by omega
  conv => lhs; rw [h5, List.range_add, List.range_add]
  simp only [List.range_succ, List.range_zero, List.map_append, List.map_map, List.nil_append, List.map_cons, List.map_nil, Nat.add_zero]
  congr 1
  rw [List.singleton_append]
  congr 1
  apply List.map_congr_left
  intro a _
  simp only [Function.comp]
  omega
 ·intro a ha
  have ha := List.mem_range.1 ha
  cases h5 : out.contains a
  ·have := h4 a ha h5
   have h6 : freeB l out a = false := by
    cases h7 : freeB l out a
    ·rfl
    ·exact absurd (cnt_zero.2 h7) this
   simp [h6]
  ·simp [h5]
theorem next_none {l : List Bx} {out : List Nat} (h4 : ∀ k, k < l.length → out.contains k = false → cntB l out k ≠ 0) : nextB l out = none := by
 unfold nextB
 rw [List.find?_eq_none]
 intro a ha
 have ha := List.mem_range.1 ha
 cases h5 : out.contains a
 ·have := h4 a ha h5
  have h6 : freeB l out a = false := by
   cases h7 : freeB l out a
   ·rfl
   ·exact absurd (cnt_zero.2 h7) this
  simp [h6]
 ·simp
/-- an order under way: each index once, no box before an earlier one -/
structure OrdB (l : List Bx) (out : List Nat) : Prop where
 fr : ∀ a ∈ out, ∀ k, k < l.length → k ∉ out → befB (l.getD k default) (l.getD a default) = false
 nd : out.Nodup
 lt : ∀ i ∈ out, i < l.length
 bef : out.Pairwise fun a b => befB (l.getD b default) (l.getD a default) = false
theorem next_ord {l : List Bx} {out : List Nat} {i : Nat} (h : nextB l out = some i) : i < l.length ∧ out.contains i = false ∧ freeB l out i = true := by
 unfold nextB at h
 have h1 := List.mem_of_find?_eq_some h
 have h2 := List.find?_some h
 refine ⟨List.mem_range.1 h1, ?_, ?_⟩
 ·cases hc : out.contains i
  ·rfl
  ·rw [hc] at h2; simp at h2
 ·cases hc : freeB l out i
  ·rw [hc] at h2; simp at h2
  ·rfl
theorem sort_len {l : List Bx} : ∀ (f : Nat) (out s : List Nat), sortB l f out = some s → s.length = out.length + f
 | 0, out, s, h => by simp [sortB] at h; subst h; rfl
 | f + 1, out, s, h => by
  unfold sortB at h
  split at h
  ·cases h
  ·have := sort_len f _ _ h
   simp at this; omega
theorem sort_ord {l : List Bx} : ∀ (f : Nat) (out s : List Nat), OrdB l out → sortB l f out = some s → OrdB l s
 | 0, out, s, ho, h => by simp [sortB] at h; subst h; exact ho
 | f + 1, out, s, ho, h => by
  unfold sortB at h
  split at h
  ·cases h
  ·rename_i i hi
   obtain ⟨h1, h2, h3⟩ := next_ord hi
   have h4 : i ∉ out := fun h => by
    have : out.contains i = true := by simp [h]
    rw [this] at h2; cases h2
   have h5 : ∀ k, k < l.length → k ∉ out → befB (l.getD k default) (l.getD i default) = false := fun k hk hno => by
    unfold freeB at h3
    rw [List.all_eq_true] at h3
    have := h3 k (List.mem_range.2 hk)
    have e : out.contains k = false := by simp [hno]
    rw [e, Bool.false_or] at this
    simpa using this
   refine sort_ord f _ _ ⟨?_, ?_, ?_, ?_⟩ h
   ·intro a ha k hk hno
    have hno2 : k ∉ out := fun h => hno (List.mem_append_left _ h)
    rcases List.mem_append.1 ha with h | h
    ·exact ho.fr a h k hk hno2
    ·rw [List.mem_singleton.1 h]; exact h5 k hk hno2
   ·rw [List.nodup_append]
    refine ⟨ho.nd, by simp, fun a ha b hb => ?_⟩
    rw [List.mem_singleton.1 hb]
    intro e
    exact h4 (e ▸ ha)
   ·intro a ha
    rcases List.mem_append.1 ha with h | h
    ·exact ho.lt a h
    ·rw [List.mem_singleton.1 h]; exact h1
   ·rw [List.pairwise_append]
    refine ⟨ho.bef, by simp, fun a ha b hb => ?_⟩
    rw [List.mem_singleton.1 hb]
    exact ho.fr a ha i h1 h4
theorem sort_all {l : List Bx} {s : List Nat} (h : sortB l l.length [] = some s) : s.length = l.length ∧ OrdB l s :=
 ⟨by have := sort_len _ _ _ h; simpa using this, sort_ord _ _ _ ⟨by simp, by simp, by simp, by simp⟩ h⟩
def okE : Option (List Nat) → List Nat × Int
 | some s => (s, 0)
 | none => ([], 31)
/-- what Sort returns -/
def sortE (l : List Bx) : List Nat × Int := if chkB l 0 = 0 then okE (sortB l l.length []) else ([], chkB l 0)
end Go.Proofs.Ytjdgjhaggpahkaa
