/- Reading order: the entries of the boxes that are left, and the least that none comes before, in plain lists. Conditions: none. -/
import Derived.Test.YtjdgjhaggpahkaaZNr1
set_option linter.unusedVariables false
set_option linter.unusedSimpArgs false
namespace Go.Proofs.Ytjdgjhaggpahkaa
/-- the entries of the boxes that are left, with what f counts for each -/
def leftK (n : Nat) (out : List Nat) : List Nat := (List.range n).filter fun i => !out.contains i
def entF (R : List Nat) (f : Nat → Int) : List (Nat × Int) := R.map fun i => (i, f i)
theorem entF_split {R : List Nat} {i : Nat} (hi : i ∈ R) (hn : R.Nodup) : ∃ R1 R2, R = R1 ++ i :: R2 ∧ i ∉ R1 ∧ i ∉ R2 := by
 obtain ⟨R1, R2, e⟩ := List.append_of_mem hi
 subst e
 rw [List.nodup_append] at hn
 refine ⟨R1, R2, rfl, fun h => hn.2.2 i h i (by simp) rfl, ?_⟩
 exact (List.nodup_cons.1 hn.2.1).1
theorem entF_app (R1 R2 : List Nat) (f : Nat → Int) (i : Nat) : entF (R1 ++ i :: R2) f = entF R1 f ++ (i, f i) :: entF R2 f := by simp [entF]
theorem entF_no {R : List Nat} {f : Nat → Int} {i : Nat} (h : i ∉ R) : ∀ p ∈ entF R f, p.1 ≠ i := fun p hp e => by
 obtain ⟨k, hk, rfl⟩ := List.mem_map.1 hp
 exact h (e ▸ hk)
theorem entF_congr {R : List Nat} {f g : Nat → Int} (h : ∀ i ∈ R, f i = g i) : entF R f = entF R g := List.map_congr_left fun i hi => by rw [h i hi]
theorem entF_mem {R : List Nat} {f : Nat → Int} {i : Nat} {v : Int} : (i, v) ∈ entF R f ↔ i ∈ R ∧ v = f i := by
 unfold entF
 rw [List.mem_map]
 constructor
 ·rintro ⟨k, hk, e⟩
  injection e with e1 e2
  subst e1
  exact ⟨hk, e2.symm⟩
 ·rintro ⟨h, rfl⟩
  exact ⟨i, h, rfl⟩
theorem entF_keys (R : List Nat) (f : Nat → Int) : (entF R f).map (·.1) = R := by unfold entF; rw [List.map_map]; exact List.map_id'' (fun _ => rfl) R
/-- one entry's value changes -/
theorem entF_upd {R : List Nat} {f : Nat → Int} {i : Nat} (v : Int) (hi : i ∈ R) (hn : R.Nodup) : ∃ E1 E2, entF R f = E1 ++ (i, f i) :: E2 ∧ (∀ p ∈ E1, p.1 ≠ i) ∧ E1 ++ (i, v) :: E2 = entF R (fun k => if k = i then v else f k) := by
 obtain ⟨R1, R2, rfl, h1, h2⟩ := entF_split hi hn
 refine ⟨entF R1 f, entF R2 f, entF_app .., entF_no h1, ?_⟩
 rw [entF_app]
 simp only [if_true]
 rw [entF_congr (R := R1) (g := fun k => if k = i then v else f k) (fun k hk => by
   have : k ≠ i := fun e => h1 (e ▸ hk)
   simp [this]),
  entF_congr (R := R2) (g := fun k => if k = i then v else f k) (fun k hk => by
   have : k ≠ i := fun e => h2 (e ▸ hk)
   simp [this])]
theorem leftK_nodup (n : Nat) (out : List Nat) : (leftK n out).Nodup := List.Nodup.sublist List.filter_sublist List.nodup_range
theorem leftK_mem {n : Nat} {out : List Nat} {i : Nat} : i ∈ leftK n out ↔ i < n ∧ i ∉ out := by
 unfold leftK
 rw [List.mem_filter, List.mem_range]
 simp
/-- one entry is struck -/
theorem entF_del {n : Nat} {out : List Nat} {f : Nat → Int} {i : Nat} (hi : i ∈ leftK n out) : ∃ E1 E2, entF (leftK n out) f = E1 ++ (i, f i) :: E2 ∧ (∀ p ∈ E1, p.1 ≠ i) ∧ E1 ++ E2 = entF (leftK n (out ++ [i])) f := by
 have hn := leftK_nodup n out
 obtain ⟨R1, R2, e, h1, h2⟩ := entF_split hi hn
 refine ⟨entF R1 f, entF R2 f, by rw [e, entF_app], entF_no h1, ?_⟩
 have h3 : leftK n (out ++ [i]) = (leftK n out).filter fun k => decide (k ≠ i) := by
  unfold leftK
  rw [List.filter_filter]
  apply List.filter_congr
  intro k _
  by_cases hk : k = i <;> simp [hk]
 rw [h3, e, List.filter_append, List.filter_cons]
 have k1 : R1.filter (fun k => decide (k ≠ i)) = R1 := List.filter_eq_self.2 fun k hk => decide_eq_true fun e => h1 (e ▸ hk)
 have k2 : R2.filter (fun k => decide (k ≠ i)) = R2 := List.filter_eq_self.2 fun k hk => decide_eq_true fun e => h2 (e ▸ hk)
 rw [k1, k2]
 simp [entF]
/-- the counts while the boxes behind j's removal are lowered: those seen are done -/
def midF (l : List Bx) (out : List Nat) (j : Nat) (seen : Array Nat) (i : Nat) : Int := if i ∈ seen ∧ befB (l.getD j default) (l.getD i default) = true then (cntB l out i : Int) - 1 else (cntB l out i : Int)
theorem midF_none (l : List Bx) (out : List Nat) (j i : Nat) : midF l out j #[] i = (cntB l out i : Int) := by unfold midF; rw [if_neg]; simp
theorem midF_all {l : List Bx} {out : List Nat} {j i : Nat} {seen : Array Nat} (hj : j < l.length) (hjo : out.contains j = false) (hs : i ∈ seen) : midF l out j seen i = (cntB l (out ++ [j]) i : Int) := by
 have := cnt_step (i := i) hj hjo
 unfold midF
 by_cases h : befB (l.getD j default) (l.getD i default) = true
 ·rw [if_pos ⟨hs, h⟩]; rw [if_pos h] at this; omega
 ·rw [if_neg (fun e => h e.2)]; rw [if_neg h] at this; omega
theorem midF_push {l : List Bx} {out : List Nat} {j i k : Nat} {seen : Array Nat} (hs : i ∉ seen) : midF l out j (seen.push i) k = if k = i then (if befB (l.getD j default) (l.getD i default) = true then (cntB l out i : Int) - 1 else (cntB l out i : Int)) else midF l out j seen k := by
 unfold midF
 by_cases e : k = i
 ·subst e; simp
 ·simp [e]
theorem midF_not {l : List Bx} {out : List Nat} {j i : Nat} {seen : Array Nat} (hs : i ∉ seen) : midF l out j seen i = (cntB l out i : Int) := by unfold midF; rw [if_neg (fun h => hs h.1)]
/-- the first count, part by part -/
def cntUp (l : List Bx) (j i : Nat) : Nat := ((List.range j).filter fun k => befB (l.getD k default) (l.getD i default)).length
theorem cntUp_succ (l : List Bx) (j i : Nat) : cntUp l (j + 1) i = cntUp l j i + (if befB (l.getD j default) (l.getD i default) = true then 1 else 0) := by
 unfold cntUp
 rw [List.range_succ, List.filter_append, List.length_append, List.filter_cons]
 split <;> simp
theorem cntUp_all (l : List Bx) (i : Nat) : cntUp l l.length i = cntB l [] i := by unfold cntUp cntB; simp
theorem entF_snoc (i : Nat) (f : Nat → Int) : entF (List.range i) f ++ [(i, f i)] = entF (List.range (i + 1)) f := by simp [entF, List.range_succ]
theorem leftK_nil (n : Nat) : leftK n [] = List.range n := by unfold leftK; simp
/-- the least of the boxes seen that none comes before, or -1 -/
def NxtB (l : List Bx) (out : List Nat) (seen : Array Nat) (x : Int) : Prop :=
 (x = -1 ∧ ∀ i ∈ seen, cntB l out i ≠ 0) ∨ ∃ k : Nat, x = (k : Int) ∧ k ∈ leftK l.length out ∧ cntB l out k = 0 ∧ ∀ i ∈ seen, cntB l out i = 0 → k ≤ i
theorem NxtB_0 (l : List Bx) (out : List Nat) : NxtB l out #[] (-1) := Or.inl ⟨rfl, by simp⟩
theorem NxtB_keep {l : List Bx} {out : List Nat} {seen : Array Nat} {x : Int} {i : Nat} (h : NxtB l out seen x) (hi : ¬ (cntB l out i = 0 ∧ (x < 0 ∨ (i : Int) < x))) : NxtB l out (seen.push i) x := by
 rcases h with ⟨rfl, h⟩ | ⟨k, rfl, h1, h2, h3⟩
 ·refine Or.inl ⟨rfl, fun j hj => ?_⟩
  rcases Array.mem_push.1 hj with hj | rfl
  ·exact h j hj
  ·exact fun e => hi ⟨e, Or.inl (by omega)⟩
 ·refine Or.inr ⟨k, rfl, h1, h2, fun j hj hc => ?_⟩
  rcases Array.mem_push.1 hj with hj | rfl
  ·exact h3 j hj hc
  ·have : ¬ (j : Int) < (k : Int) := fun e => hi ⟨hc, Or.inr e⟩
   omega
theorem NxtB_take {l : List Bx} {out : List Nat} {seen : Array Nat} {x : Int} {i : Nat} (h : NxtB l out seen x) (hl : i ∈ leftK l.length out) (hc : cntB l out i = 0) (hx : x < 0 ∨ (i : Int) < x) : NxtB l out (seen.push i) (i : Int) := by
 refine Or.inr ⟨i, rfl, hl, hc, fun j hj hc2 => ?_⟩
 rcases Array.mem_push.1 hj with hj | rfl
 ·rcases h with ⟨rfl, h⟩ | ⟨k, rfl, h1, h2, h3⟩
  ·exact absurd hc2 (h j hj)
  ·have := h3 j hj hc2
   omega
 ·exact Nat.le_refl _
theorem NxtB_end {l : List Bx} {out : List Nat} {seen : Array Nat} {x : Int} (h : NxtB l out seen x) (hs : ∀ i ∈ leftK l.length out, i ∈ seen) :
  (x = -1 ∧ nextB l out = none) ∨ ∃ k : Nat, x = (k : Int) ∧ k ∈ leftK l.length out ∧ nextB l out = some k := by
 rcases h with ⟨rfl, h⟩ | ⟨k, rfl, h1, h2, h3⟩
 ·exact Or.inl ⟨rfl, next_none fun k hk ho => h k (hs k (leftK_mem.2 ⟨hk, by simpa using ho⟩))⟩
 ·have h4 := leftK_mem.1 h1
  refine Or.inr ⟨k, rfl, h1, next_some h4.1 (by simpa using h4.2) h2 fun j hj ho e => ?_⟩
  have := h3 j (hs j (leftK_mem.2 ⟨by omega, by simpa using ho⟩)) e
  omega
theorem leftK_step {n : Nat} {out : List Nat} {i : Nat} (hi : i ∈ leftK n out) : (leftK n (out ++ [i])).length + 1 = (leftK n out).length := by
 obtain ⟨E1, E2, h1, _, h3⟩ := entF_del (f := fun _ => 0) hi
 have e1 := congrArg List.length h1
 have e2 := congrArg List.length h3
 simp [entF] at e1 e2
 omega
theorem filt_le {p q : Nat → Bool} (h : ∀ a, p a = true → q a = true) : ∀ (S : List Nat), (S.filter p).length ≤ (S.filter q).length
 | [] => Nat.le_refl _
 | a :: S => by
  have ih := filt_le h S
  rw [List.filter_cons, List.filter_cons]
  cases hp : p a
  ·cases hq : q a
   ·simpa using ih
   ·simp only [if_true, List.length_cons, Bool.false_eq_true, if_false]; omega
  ·rw [h a hp]
   simp only [if_true, List.length_cons]; omega
theorem seen_dec {R : List Nat} {seen : Array Nat} {j : Nat} (hj : j ∈ R) (hs : j ∉ seen) : (R.filter fun k => !(seen.push j).contains k).length < (R.filter fun k => !seen.contains k).length := by
 have hh : ∀ a, (!(seen.push j).contains a) = true → (!seen.contains a) = true := fun a h => by
  simp at h ⊢; exact h.1
 have h2 : (seen.push j).contains j = true := by simp
 have h3 : seen.contains j = false := by simpa using hs
 obtain ⟨R1, R2, rfl⟩ := List.append_of_mem hj
 rw [List.filter_append, List.filter_append, List.length_append, List.length_append, List.filter_cons, List.filter_cons]
 rw [h2, h3]
 have a1 := filt_le hh R1
 have a2 := filt_le hh R2
 simp only [Bool.not_true, Bool.not_false, Bool.false_eq_true, if_false, if_true, List.length_cons]
 omega
theorem cntB_le (l : List Bx) (out : List Nat) (i : Nat) : cntB l out i ≤ l.length := by
 unfold cntB
 exact Nat.le_trans (List.length_filter_le _ _) (by simp)
end Go.Proofs.Ytjdgjhaggpahkaa
