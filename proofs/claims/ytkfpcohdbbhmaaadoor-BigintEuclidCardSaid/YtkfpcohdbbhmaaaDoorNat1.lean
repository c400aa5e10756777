/- Natural numbers as lists of limbs: plain facts. Conditions: none. -/
namespace Go.Proofs.YtkfpcohdbbhmaaaDoor.Big
set_option linter.unusedVariables false
set_option linter.unusedSimpArgs false

def base : Nat := 4294967296

def val : List Nat → Nat
  | [] => 0
  | x :: r => x + 4294967296 * val r

def Ok (l : List Nat) : Prop := ∀ x ∈ l, x < 4294967296

def limbs (n : Nat) : List Nat :=
  if h : n = 0 then [] else (n % 4294967296) :: limbs (n / 4294967296)
termination_by n
decreasing_by omega

theorem limbs_zero : limbs 0 = [] := by rw [limbs]; simp
theorem limbs_pos {n : Nat} (h : n ≠ 0) : limbs n = (n % 4294967296) :: limbs (n / 4294967296) := by rw [limbs]; simp [h]

theorem val_limbs (n : Nat) : val (limbs n) = n := by
  induction n using Nat.strongRecOn with
  | _ n ih =>
    by_cases h : n = 0
    · subst h; simp [limbs_zero, val]
    · rw [limbs_pos h, val, ih (n / 4294967296) (by omega)]
      omega

theorem ok_limbs (n : Nat) : Ok (limbs n) := by
  induction n using Nat.strongRecOn with
  | _ n ih =>
    by_cases h : n = 0
    · subst h; simp [limbs_zero, Ok]
    · rw [limbs_pos h]
      intro x hx
      rcases List.mem_cons.1 hx with rfl | hx
      · omega
      · exact ih (n / 4294967296) (by omega) x hx

theorem Ok.nil : Ok [] := by simp [Ok]
theorem Ok.cons {x : Nat} {l : List Nat} (h : x < 4294967296) (hl : Ok l) : Ok (x :: l) := by
  intro y hy; rcases List.mem_cons.1 hy with rfl | hy
  · exact h
  · exact hl y hy
theorem Ok.head {x : Nat} {l : List Nat} (h : Ok (x :: l)) : x < 4294967296 := h x (List.mem_cons_self)
theorem Ok.tail {x : Nat} {l : List Nat} (h : Ok (x :: l)) : Ok l := fun y hy => h y (List.mem_cons_of_mem _ hy)
theorem Ok.app {a b : List Nat} (ha : Ok a) (hb : Ok b) : Ok (a ++ b) := by
  intro y hy; rcases List.mem_append.1 hy with h | h
  · exact ha y h
  · exact hb y h
theorem Ok.left {a b : List Nat} (h : Ok (a ++ b)) : Ok a := fun y hy => h y (List.mem_append.2 (.inl hy))
theorem Ok.right {a b : List Nat} (h : Ok (a ++ b)) : Ok b := fun y hy => h y (List.mem_append.2 (.inr hy))
theorem Ok.take {a : List Nat} (h : Ok a) (k : Nat) : Ok (a.take k) := fun y hy => h y (List.mem_of_mem_take hy)
theorem Ok.drop {a : List Nat} (h : Ok a) (k : Nat) : Ok (a.drop k) := fun y hy => h y (List.mem_of_mem_drop hy)
theorem Ok.get {a : List Nat} (h : Ok a) {k : Nat} (hk : k < a.length) : a[k] < 4294967296 := h _ (List.getElem_mem hk)
theorem Ok.rep (n : Nat) : Ok (List.replicate n 0) := by intro y hy; have := List.eq_of_mem_replicate hy; omega

/-- no zero at the end -/
def Nrm (l : List Nat) : Prop := l.getLast? ≠ some 0

theorem nrm_limbs (n : Nat) : Nrm (limbs n) := by
  induction n using Nat.strongRecOn with
  | _ n ih =>
    by_cases h : n = 0
    · subst h; simp [limbs_zero, Nrm]
    · rw [limbs_pos h]
      have := ih (n / 4294967296) (by omega)
      unfold Nrm at this ⊢
      by_cases h2 : n / 4294967296 = 0
      · rw [h2, limbs_zero]; simp; omega
      · rw [limbs_pos h2] at this ⊢
        rw [List.getLast?_cons_cons]; exact this

theorem val_pos {l : List Nat} (h : Nrm l) (hl : l ≠ []) : 0 < val l := by
  induction l with
  | nil => exact absurd rfl hl
  | cons x r ih =>
    cases r with
    | nil => simp [Nrm] at h; simp [val]; omega
    | cons y s =>
      have := ih (by unfold Nrm at h ⊢; rwa [List.getLast?_cons_cons] at h) (by simp)
      rw [val]; omega

theorem limbs_val {l : List Nat} (h : Ok l) (hn : Nrm l) : limbs (val l) = l := by
  induction l with
  | nil => simp [val, limbs_zero]
  | cons x r ih =>
    have hp := val_pos hn (by simp)
    have hx := h.head
    rw [limbs_pos (by omega), val]
    have e1 : (x + 4294967296 * val r) % 4294967296 = x := by omega
    have e2 : (x + 4294967296 * val r) / 4294967296 = val r := by omega
    rw [e1, e2]
    have hr : Nrm r := by
      cases r with
      | nil => simp [Nrm]
      | cons y s => unfold Nrm at hn ⊢; rwa [List.getLast?_cons_cons] at hn
    rw [ih h.tail hr]

theorem val_append (a b : List Nat) : val (a ++ b) = val a + 4294967296 ^ a.length * val b := by
  induction a with
  | nil => simp [val]
  | cons x r ih =>
    simp only [List.cons_append, val, ih, List.length_cons, Nat.pow_succ]
    rw [Nat.mul_add, Nat.mul_comm (4294967296 ^ r.length) 4294967296, Nat.mul_assoc, Nat.add_assoc]

theorem val_rep (n : Nat) : val (List.replicate n 0) = 0 := by
  induction n with
  | zero => rfl
  | succ n ih => rw [List.replicate_succ, val, ih]

theorem val_snoc_zero (a : List Nat) : val (a ++ [0]) = val a := by rw [val_append]; simp [val]

/-- what trim leaves: a prefix with the same value and no zero at the end is limbs of the value -/
theorem limbs_trim {l : List Nat} (h : Ok l) (n : Nat) (hn : n ≤ l.length) (hz : ∀ i, n ≤ i → (hi : i < l.length) → l[i] = 0) (hl : n = 0 ∨ ∃ h : n - 1 < l.length, l[n - 1] ≠ 0) :
    l.take n = limbs (val l) := by
  have e : l = l.take n ++ List.replicate (l.length - n) 0 := by
    apply List.ext_getElem
    · simp; omega
    · intro i h1 h2
      rw [List.getElem_append]
      split
      · simp
      · rename_i h3
        simp at h3
        rw [List.getElem_replicate]
        exact hz i (by omega) h1
  have hv : val l = val (l.take n) := by
    conv => lhs; rw [e]
    rw [val_append, val_rep]; simp
  rw [hv, limbs_val (h.take n)]
  unfold Nrm
  rcases hl with rfl | ⟨h1, h2⟩
  · simp
  · intro h3
    rw [List.getLast?_eq_getElem?] at h3
    rw [List.getElem?_take] at h3
    simp only [List.length_take] at h3
    split at h3
    · have : min n l.length - 1 = n - 1 := by omega
      rw [this, List.getElem?_eq_getElem h1] at h3
      simp at h3; exact h2 h3
    · cases h3

theorem limbs_length_le {l : List Nat} (h : Ok l) : (limbs (val l)).length ≤ l.length := by
  induction l with
  | nil => simp [val, limbs_zero]
  | cons x r ih =>
    have hx := h.head
    rw [val]
    by_cases h0 : x + 4294967296 * val r = 0
    · rw [h0, limbs_zero]; simp
    · rw [limbs_pos h0]
      have e2 : (x + 4294967296 * val r) / 4294967296 = val r := by omega
      rw [e2]; have := ih h.tail; simp; omega

theorem limbs_len_iff (n k : Nat) : (limbs n).length ≤ k ↔ n < 4294967296 ^ k := by
  induction k generalizing n with
  | zero =>
    by_cases h : n = 0
    · subst h; simp [limbs_zero]
    · rw [limbs_pos h]; simp; omega
  | succ k ih =>
    by_cases h : n = 0
    · subst h; simp [limbs_zero]; exact Nat.pow_pos (by omega)
    · rw [limbs_pos h]
      have := ih (n / 4294967296)
      rw [List.length_cons, Nat.add_le_add_iff_right, this, Nat.pow_succ]
      exact Nat.div_lt_iff_lt_mul (by omega)

theorem limbs_eq_nil {n : Nat} : limbs n = [] ↔ n = 0 := by
  constructor
  · intro h
    by_cases h0 : n = 0
    · exact h0
    · rw [limbs_pos h0] at h; cases h
  · rintro rfl; exact limbs_zero

theorem limbs_inj {a b : Nat} (h : limbs a = limbs b) : a = b := by
  have := congrArg val h; rwa [val_limbs, val_limbs] at this

/- addition -/
def addC : List Nat → List Nat → Nat → List Nat
  | [], [], c => [c]
  | x :: a, [], c => ((x + c) % 4294967296) :: addC a [] ((x + c) / 4294967296)
  | [], y :: b, c => ((y + c) % 4294967296) :: addC [] b ((y + c) / 4294967296)
  | x :: a, y :: b, c => ((x + y + c) % 4294967296) :: addC a b ((x + y + c) / 4294967296)

theorem val_addC (a b : List Nat) (c : Nat) : val (addC a b c) = val a + val b + c := by
  induction a generalizing b c with
  | nil =>
    induction b generalizing c with
    | nil => simp [addC, val]
    | cons y b ih => simp only [addC, val] at *; rw [ih]; omega
  | cons x a ih =>
    cases b with
    | nil => simp only [addC, val] at *; rw [ih]; simp only [val]; omega
    | cons y b => simp only [addC, val] at *; rw [ih]; omega

/- subtraction with borrow -/
def subB : List Nat → List Nat → Nat → List Nat
  | [], _, _ => []
  | x :: a, [], c => ((x + 4294967296 - c) % 4294967296) :: subB a [] (if x < c then 1 else 0)
  | x :: a, y :: b, c => ((x + 4294967296 - (y + c)) % 4294967296) :: subB a b (if x < y + c then 1 else 0)

theorem val_subB (a b : List Nat) (c : Nat) (ha : Ok a) (hb : Ok b) (hc : c ≤ 1) (hlen : b.length ≤ a.length) (hle : val b + c ≤ val a) : val (subB a b c) = val a - val b - c := by
  induction a generalizing b c with
  | nil =>
    cases b with
    | nil => simp [subB, val]
    | cons y b => simp at hlen
  | cons x a ih =>
    have hx := ha.head
    cases b with
    | nil =>
      simp only [subB, val] at *
      by_cases h : x < c
      · rw [if_pos h, ih [] 1 ha.tail .nil (by omega) (by simp) (by simp [val]; omega)]
        simp only [val]; omega
      · rw [if_neg h, ih [] 0 ha.tail .nil (by omega) (by simp) (by simp [val])]
        simp only [val]; omega
    | cons y b =>
      have hy := hb.head
      simp only [subB, val] at *
      by_cases h : x < y + c
      · rw [if_pos h, ih b 1 ha.tail hb.tail (by omega) (by simpa using hlen) (by omega)]
        omega
      · rw [if_neg h, ih b 0 ha.tail hb.tail (by omega) (by simpa using hlen) (by omega)]
        omega

theorem length_subB (a b : List Nat) (c : Nat) : (subB a b c).length = a.length := by
  induction a generalizing b c with
  | nil => simp [subB]
  | cons x a ih => cases b <;> simp [subB, ih]

theorem ok_subB (a b : List Nat) (c : Nat) : Ok (subB a b c) := by
  induction a generalizing b c with
  | nil => simp [subB, Ok]
  | cons x a ih =>
    cases b with
    | nil => exact Ok.cons (by omega) (ih _ _)
    | cons y b => exact Ok.cons (by omega) (ih _ _)

theorem length_addC (a b : List Nat) (c : Nat) : (addC a b c).length = max a.length b.length + 1 := by
  induction a generalizing b c with
  | nil =>
    induction b generalizing c with
    | nil => simp [addC]
    | cons y b ih => simp only [addC, List.length_cons] at *; rw [ih]; simp
  | cons x a ih =>
    cases b with
    | nil => simp only [addC, List.length_cons]; rw [ih]; simp
    | cons y b => simp only [addC, List.length_cons]; rw [ih]; omega

theorem ok_addC (a b : List Nat) (c : Nat) (ha : Ok a) (hb : Ok b) (hc : c ≤ 1) : Ok (addC a b c) := by
  induction a generalizing b c with
  | nil =>
    induction b generalizing c with
    | nil => simp [addC, Ok]; omega
    | cons y b ih =>
      have := hb.head
      rw [addC]
      exact Ok.cons (Nat.mod_lt _ (by omega)) (ih _ hb.tail (by omega))
  | cons x a ih =>
    have := ha.head
    cases b with
    | nil => rw [addC]; exact Ok.cons (Nat.mod_lt _ (by omega)) (ih _ _ ha.tail .nil (by omega))
    | cons y b => have := hb.head; rw [addC]; exact Ok.cons (Nat.mod_lt _ (by omega)) (ih _ _ ha.tail hb.tail (by omega))

end Go.Proofs.YtkfpcohdbbhmaaaDoor.Big
