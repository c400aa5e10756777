/- Natural numbers as lists of limbs: plain facts. Conditions: none. -/
import Derived.Lib.BitFns
import Derived.Lib.ItoaMem
import Derived.Lib.Repeat
set_option linter.unusedVariables false
set_option linter.unusedSimpArgs false
namespace Go.Proofs.YtfdmlfpldgobjaaGreatDoor.Big
def base : Nat := 4294967296
def val : List Nat → Nat
 | [] => 0
 | x :: r => x + 4294967296 * val r
def Ok (l : List Nat) : Prop := ∀ x ∈ l, x < 4294967296
def limbs (n : Nat) : List Nat :=
 if h : n = 0 then [] else (n % 4294967296) :: limbs (n / 4294967296)
termination_by n
decreasing_by omega
theorem limbs_zero : limbs 0 = [] := by rw [limbs]; simp
theorem limbs_pos {n : Nat} (h : n ≠ 0) : limbs n = (n % 4294967296) :: limbs (n / 4294967296) := by rw [limbs]; simp [h]
theorem val_limbs (n : Nat) : val (limbs n) = n := by
 induction n using Nat.strongRecOn with
 | _ n ih =>
  by_cases h : n = 0
  ·subst h; simp [limbs_zero, val]
  ·rw [limbs_pos h, val, ih (n / 4294967296) (by omega)]
   omega
theorem ok_limbs (n : Nat) : Ok (limbs n) := by
 induction n using Nat.strongRecOn with
 | _ n ih =>
  by_cases h : n = 0
  ·subst h; simp [limbs_zero, Ok]
  ·rw [limbs_pos h]
   intro x hx
   rcases List.mem_cons.1 hx with rfl | hx
   ·omega
   ·exact ih (n / 4294967296) (by omega) x hx
theorem Ok.nil : Ok [] := by simp [Ok]
theorem Ok.cons {x : Nat} {l : List Nat} (h : x < 4294967296) (hl : Ok l) : Ok (x :: l) := by
 intro y hy; rcases List.mem_cons.1 hy with rfl | hy
 ·exact h
 ·exact hl y hy
theorem Ok.head {x : Nat} {l : List Nat} (h : Ok (x :: l)) : x < 4294967296 := h x (List.mem_cons_self)
theorem Ok.tail {x : Nat} {l : List Nat} (h : Ok (x :: l)) : Ok l := fun y hy => h y (List.mem_cons_of_mem _ hy)
theorem Ok.app {a b : List Nat} (ha : Ok a) (hb : Ok b) : Ok (a ++ b) := by
 intro y hy; rcases List.mem_append.1 hy with h | h
 ·exact ha y h
 ·exact hb y h
theorem Ok.left {a b : List Nat} (h : Ok (a ++ b)) : Ok a := fun y hy => h y (List.mem_append.2 (.inl hy))
theorem Ok.right {a b : List Nat} (h : Ok (a ++ b)) : Ok b := fun y hy => h y (List.mem_append.2 (.inr hy))
theorem Ok.take {a : List Nat} (h : Ok a) (k : Nat) : Ok (a.take k) := fun y hy => h y (List.mem_of_mem_take hy)
theorem Ok.drop {a : List Nat} (h : Ok a) (k : Nat) : Ok (a.drop k) := fun y hy => h y (List.mem_of_mem_drop hy)
theorem Ok.get {a : List Nat} (h : Ok a) {k : Nat} (hk : k < a.length) : a[k] < 4294967296 := h _ (List.getElem_mem hk)
theorem Ok.rep (n : Nat) : Ok (List.replicate n 0) := by intro y hy; have := List.eq_of_mem_replicate hy; omega
/-- no zero at the end -/
def Nrm (l : List Nat) : Prop := l.getLast? ≠ some 0
theorem nrm_limbs (n : Nat) : Nrm (limbs n) := by
 induction n using Nat.strongRecOn with
 | _ n ih =>
  by_cases h : n = 0
  ·subst h; simp [limbs_zero, Nrm]
  ·rw [limbs_pos h]
   have := ih (n / 4294967296) (by omega)
   unfold Nrm at this ⊢
   by_cases h2 : n / 4294967296 = 0
   ·rw [h2, limbs_zero]; simp; omega
   ·rw [limbs_pos h2] at this ⊢
    rw [List.getLast?_cons_cons]; exact this
theorem val_pos {l : List Nat} (h : Nrm l) (hl : l ≠ []) : 0 < val l := by
 induction l with
 | nil => exact absurd rfl hl
 | cons x r ih =>
  cases r with
  | nil => simp [Nrm] at h; simp [val]; omega
  | cons y s =>
   have := ih (by unfold Nrm at h ⊢; rwa [List.getLast?_cons_cons] at h) (by simp)
   rw [val]; omega
theorem limbs_val {l : List Nat} (h : Ok l) (hn : Nrm l) : limbs (val l) = l := by
 induction l with
 | nil => simp [val, limbs_zero]
 | cons x r ih =>
  have hp := val_pos hn (by simp)
  have hx := h.head
  rw [limbs_pos (by omega), val]
  have e1 : (x + 4294967296 * val r) % 4294967296 = x := by omega
  have e2 : (x + 4294967296 * val r) / 4294967296 = val r := by omega
  rw [e1, e2]
  have hr : Nrm r := by
   cases r with
   | nil => simp [Nrm]
   | cons y s => unfold Nrm at hn ⊢; rwa [List.getLast?_cons_cons] at hn
  rw [ih h.tail hr]
theorem val_append (a b : List Nat) : val (a ++ b) = val a + 4294967296 ^ a.length * val b := by
 induction a with
 | nil => simp [val]
 | cons x r ih =>
  simp only [List.cons_append, val, ih, List.length_cons, Nat.pow_succ]
  rw [Nat.mul_add, Nat.mul_comm (4294967296 ^ r.length) 4294967296, Nat.mul_assoc, Nat.add_assoc]
theorem val_rep (n : Nat) : val (List.replicate n 0) = 0 := by
 induction n with
 | zero => rfl
 | succ n ih => rw [List.replicate_succ, val, ih]
theorem val_snoc_zero (a : List Nat) : val (a ++ [0]) = val a := by rw [val_append]; simp [val]
/-- what trim leaves: a prefix with the same value and no zero at the end is limbs of the value -/
theorem limbs_trim {l : List Nat} (h : Ok l) (n : Nat) (hn : n ≤ l.length) (hz : ∀ i, n ≤ i → (hi : i < l.length) → l[i] = 0) (hl : n = 0 ∨ ∃ h : n - 1 < l.length, l[n - 1] ≠ 0) :
  l.take n = limbs (val l) := by
 have e : l = l.take n ++ List.replicate (l.length - n) 0 := by
  apply List.ext_getElem
  ·simp; omega
  ·intro i h1 h2
   rw [List.getElem_append]
   split
   ·simp
   ·rename_i h3
    simp at h3
    rw [List.getElem_replicate]
    exact hz i (by omega) h1
 have hv : val l = val (l.take n) := by
  conv => lhs; rw [e]
  rw [val_append, val_rep]; simp
 rw [hv, limbs_val (h.take n)]
 unfold Nrm
 rcases hl with rfl | ⟨h1, h2⟩
 ·simp
 ·intro h3
  rw [List.getLast?_eq_getElem?] at h3
  rw [List.getElem?_take] at h3
  simp only [List.length_take] at h3
  split at h3
  ·have : min n l.length - 1 = n - 1 := by omega
   rw [this, List.getElem?_eq_getElem h1] at h3
   simp at h3; exact h2 h3
  ·cases h3
theorem limbs_len_iff (n k : Nat) : (limbs n).length ≤ k ↔ n < 4294967296 ^ k := by
 induction k generalizing n with
 | zero =>
  by_cases h : n = 0
  ·subst h; simp [limbs_zero]
  ·rw [limbs_pos h]; simp; omega
 | succ k ih =>
  by_cases h : n = 0
  ·subst h; simp [limbs_zero]; exact Nat.pow_pos (by omega)
  ·rw [limbs_pos h]
   have := ih (n / 4294967296)
   rw [List.length_cons, Nat.add_le_add_iff_right, this, Nat.pow_succ]
   exact Nat.div_lt_iff_lt_mul (by omega)
theorem limbs_eq_nil {n : Nat} : limbs n = [] ↔ n = 0 := by
 constructor
 ·intro h
  by_cases h0 : n = 0
  ·exact h0
  ·rw [limbs_pos h0] at h; cases h
 ·rintro rfl; exact limbs_zero
theorem limbs_inj {a b : Nat} (h : limbs a = limbs b) : a = b := by
 have := congrArg val h; rwa [val_limbs, val_limbs] at this
/- addition -/
def addC : List Nat → List Nat → Nat → List Nat
 | [], [], c => [c]
 | x :: a, [], c => ((x + c) % 4294967296) :: addC a [] ((x + c) / 4294967296)
 | [], y :: b, c => ((y + c) % 4294967296) :: addC [] b ((y + c) / 4294967296)
 | x :: a, y :: b, c => ((x + y + c) % 4294967296) :: addC a b ((x + y + c) / 4294967296)
theorem val_addC (a b : List Nat) (c : Nat) : val (addC a b c) = val a + val b + c := by
 induction a generalizing b c with
 | nil =>
  induction b generalizing c with
  | nil => simp [addC, val]
  | cons y b ih => simp only [addC, val] at *; rw [ih]; omega
 | cons x a ih =>
  cases b with
  | nil => simp only [addC, val] at *; rw [ih]; simp only [val]; omega
  | cons y b => simp only [addC, val] at *; rw [ih]; omega
/- subtraction with borrow -/
def subB : List Nat → List Nat → Nat → List Nat
 | [], _, _ => []
 | x :: a, [], c => ((x + 4294967296 - c) % 4294967296) :: subB a [] (if x < c then 1 else 0)
 | x :: a, y :: b, c => ((x + 4294967296 - (y + c)) % 4294967296) :: subB a b (if x < y + c then 1 else 0)
theorem val_subB (a b : List Nat) (c : Nat) (ha : Ok a) (hb : Ok b) (hc : c ≤ 1) (hlen : b.length ≤ a.length) (hle : val b + c ≤ val a) : val (subB a b c) = val a - val b - c := by
 induction a generalizing b c with
 | nil =>
  cases b with
  | nil => simp [subB, val]
  | cons y b => simp at hlen
 | cons x a ih =>
  have hx := ha.head
  cases b with
  | nil =>
   simp only [subB, val] at *
   by_cases h : x < c
   ·rw [if_pos h, ih [] 1 ha.tail .nil (by omega) (by simp) (by simp [val]; omega)]
    simp only [val]; omega
   ·rw [if_neg h, ih [] 0 ha.tail .nil (by omega) (by simp) (by simp [val])]
    simp only [val]; omega
  | cons y b =>
   have hy := hb.head
   simp only [subB, val] at *
   by_cases h : x < y + c
   ·rw [if_pos h, ih b 1 ha.tail hb.tail (by omega) (by simpa using hlen) (by omega)]
    omega
   ·rw [if_neg h, ih b 0 ha.tail hb.tail (by omega) (by simpa using hlen) (by omega)]
    omega
theorem length_subB (a b : List Nat) (c : Nat) : (subB a b c).length = a.length := by
 induction a generalizing b c with
 | nil => simp [subB]
 | cons x a ih => cases b <;> simp [subB, ih]
theorem ok_subB (a b : List Nat) (c : Nat) : Ok (subB a b c) := by
 induction a generalizing b c with
 | nil => simp [subB, Ok]
 | cons x a ih =>
  cases b with
  | nil => exact Ok.cons (by omega) (ih _ _)
  | cons y b => exact Ok.cons (by omega) (ih _ _)
theorem length_addC (a b : List Nat) (c : Nat) : (addC a b c).length = max a.length b.length + 1 := by
 induction a generalizing b c with
 | nil =>
  induction b generalizing c with
  | nil => simp [addC]
  | cons y b ih => simp only [addC, List.length_cons] at *; rw [ih]; simp
 | cons x a ih =>
  cases b with
  | nil => simp only [addC, List.length_cons]; rw [ih]; simp
  | cons y b => simp only [addC, List.length_cons]; rw [ih]; omega
theorem ok_addC (a b : List Nat) (c : Nat) (ha : Ok a) (hb : Ok b) (hc : c ≤ 1) : Ok (addC a b c) := by
 induction a generalizing b c with
 | nil =>
  induction b generalizing c with
  | nil => simp [addC, Ok]; omega
  | cons y b ih =>
   have := hb.head
   rw [addC]
   exact Ok.cons (Nat.mod_lt _ (by omega)) (ih _ hb.tail (by omega))
 | cons x a ih =>
  have := ha.head
  cases b with
  | nil => rw [addC]; exact Ok.cons (Nat.mod_lt _ (by omega)) (ih _ _ ha.tail .nil (by omega))
  | cons y b => have := hb.head; rw [addC]; exact Ok.cons (Nat.mod_lt _ (by omega)) (ih _ _ ha.tail hb.tail (by omega))
end Go.Proofs.YtfdmlfpldgobjaaGreatDoor.Big
/- Natural numbers as lists of limbs: plain facts. Conditions: none. -/
namespace Go.Proofs.YtfdmlfpldgobjaaGreatDoor.Big
/-! multiplication -/
def mulRow (x : Nat) : List Nat → List Nat → Nat → List Nat
 | [], _, c => [c]
 | y :: b, [], c => ((x * y + c) % 4294967296) :: mulRow x b [] ((x * y + c) / 4294967296)
 | y :: b, p :: acc, c => ((x * y + p + c) % 4294967296) :: mulRow x b acc ((x * y + p + c) / 4294967296)
theorem val_mulRow (x : Nat) (b acc : List Nat) (c : Nat) (h : acc.length ≤ b.length) : val (mulRow x b acc c) = x * val b + val acc + c := by
 induction b generalizing acc c with
 | nil => cases acc with
  | nil => simp [mulRow, val]
  | cons p acc => simp at h
 | cons y b ih =>
  cases acc with
  | nil =>
   have e : x * (y + 4294967296 * val b) = x * y + 4294967296 * (x * val b) := by rw [Nat.mul_add, Nat.mul_left_comm]
   simp only [mulRow, val, e]
   rw [ih _ _ (by simp)]; simp only [val]; omega
  | cons p acc =>
   have e : x * (y + 4294967296 * val b) = x * y + 4294967296 * (x * val b) := by rw [Nat.mul_add, Nat.mul_left_comm]
   simp only [mulRow, val, e]
   rw [ih _ _ (by simpa using h)]; omega
theorem length_mulRow (x : Nat) (b acc : List Nat) (c : Nat) : (mulRow x b acc c).length = b.length + 1 := by
 induction b generalizing acc c with
 | nil => simp [mulRow]
 | cons y b ih => cases acc <;> simp [mulRow, ih]
theorem mul_bound {x y p c : Nat} (hx : x < 4294967296) (hy : y < 4294967296) (hp : p < 4294967296) (hc : c < 4294967296) : x * y + p + c < 18446744073709551616 := by
 have h1 : x * y ≤ 4294967295 * 4294967295 := Nat.mul_le_mul (by omega) (by omega)
 omega
theorem ok_mulRow (x : Nat) (b acc : List Nat) (c : Nat) (hx : x < 4294967296) (hb : Ok b) (ha : Ok acc) (hc : c < 4294967296) : Ok (mulRow x b acc c) := by
 induction b generalizing acc c with
 | nil => simp [mulRow, Ok]; omega
 | cons y b ih =>
  have hy := hb.head
  cases acc with
  | nil =>
   have := mul_bound hx hy (p := 0) (by omega) hc
   rw [mulRow]; exact Ok.cons (Nat.mod_lt _ (by omega)) (ih _ _ hb.tail .nil (by omega))
  | cons p acc =>
   have := mul_bound hx hy ha.head hc
   rw [mulRow]; exact Ok.cons (Nat.mod_lt _ (by omega)) (ih _ _ hb.tail ha.tail (by omega))
def mulL : List Nat → List Nat → List Nat → List Nat
 | [], _, acc => acc
 | x :: a, b, acc => (mulRow x b acc 0).headD 0 :: mulL a b (mulRow x b acc 0).tail
theorem val_mulL (a b acc : List Nat) (h : acc.length = b.length) : val (mulL a b acc) = val a * val b + val acc := by
 induction a generalizing acc with
 | nil => simp [mulL, val]
 | cons x a ih =>
  have hv := val_mulRow x b acc 0 (by omega)
  have hl := length_mulRow x b acc 0
  simp only [mulL]
  cases hm : mulRow x b acc 0 with
  | nil => rw [hm] at hl; simp at hl
  | cons r row =>
   rw [hm] at hv hl
   simp only [List.headD_cons, List.tail_cons, val] at *
   rw [ih row (by simpa using hl), Nat.add_mul, Nat.mul_assoc]
   omega
theorem ok_mulL (a b acc : List Nat) (ha : Ok a) (hb : Ok b) (hc : Ok acc) : Ok (mulL a b acc) := by
 induction a generalizing acc with
 | nil => exact hc
 | cons x a ih =>
  have hr := ok_mulRow x b acc 0 ha.head hb hc (by omega)
  rw [mulL]
  refine Ok.cons ?_ (ih _ ha.tail ?_)
  ·cases hm : mulRow x b acc 0 with
   | nil => simp
   | cons r row => rw [hm] at hr; exact hr.head
  ·cases hm : mulRow x b acc 0 with
   | nil => exact .nil
   | cons r row => rw [hm] at hr; exact hr.tail
/-! scale -/
def scaleL (by' : Nat) : List Nat → Nat → List Nat
 | [], c => [c]
 | x :: a, c => ((x * by' + c) % 4294967296) :: scaleL by' a ((x * by' + c) / 4294967296)
theorem val_scaleL (m : Nat) (a : List Nat) (c : Nat) : val (scaleL m a c) = val a * m + c := by
 induction a generalizing c with
 | nil => simp [scaleL, val]
 | cons x a ih => simp only [scaleL, val, ih, Nat.add_mul, Nat.mul_assoc]; omega
theorem length_scaleL (m : Nat) (a : List Nat) (c : Nat) : (scaleL m a c).length = a.length + 1 := by
 induction a generalizing c with
 | nil => rfl
 | cons x a ih => simp [scaleL, ih]
theorem ok_scaleL (m : Nat) (a : List Nat) (c : Nat) (hm : m < 4294967296) (ha : Ok a) (hc : c < 4294967296) : Ok (scaleL m a c) := by
 induction a generalizing c with
 | nil => simp [scaleL, Ok]; omega
 | cons x a ih =>
  have := mul_bound ha.head hm (p := 0) (by omega) hc
  rw [scaleL]; exact Ok.cons (Nat.mod_lt _ (by omega)) (ih _ ha.tail (by omega))
/-! short division -/
def divS (d : Nat) : List Nat → List Nat × Nat
 | [] => ([], 0)
 | x :: a => (((divS d a).2 * 4294967296 + x) / d :: (divS d a).1, ((divS d a).2 * 4294967296 + x) % d)
theorem divS_spec (d : Nat) (hd : 0 < d) (a : List Nat) : val (divS d a).1 * d + (divS d a).2 = val a ∧ (divS d a).2 < d := by
 induction a with
 | nil => simp [divS, val, hd]
 | cons x a ih =>
  obtain ⟨h1, h2⟩ := ih
  simp only [divS, val]
  generalize (divS d a).2 = r at *
  generalize val (divS d a).1 = q at *
  refine ⟨?_, Nat.mod_lt _ hd⟩
  have := Nat.div_add_mod' (r * 4294967296 + x) d
  rw [Nat.add_mul, Nat.mul_assoc]
  omega
theorem length_divS (d : Nat) (a : List Nat) : (divS d a).1.length = a.length := by
 induction a with
 | nil => rfl
 | cons x a ih => simp [divS, ih]
theorem ok_divS (d : Nat) (hd : 0 < d) (a : List Nat) (ha : Ok a) : Ok (divS d a).1 := by
 induction a with
 | nil => exact .nil
 | cons x a ih =>
  have := (divS_spec d hd a).2
  have hx := ha.head
  simp only [divS]
  refine Ok.cons ?_ (ih ha.tail)
  rw [Nat.div_lt_iff_lt_mul hd]
  have : (divS d a).2 + 1 ≤ d := this
  have h3 := Nat.mul_le_mul_right 4294967296 this
  rw [Nat.add_mul] at h3
  rw [Nat.mul_comm 4294967296 d]
  omega
theorem divS_eq (d : Nat) (hd : 0 < d) (a : List Nat) : val (divS d a).1 = val a / d ∧ (divS d a).2 = val a % d := by
 obtain ⟨h1, h2⟩ := divS_spec d hd a
 rw [← h1]
 constructor
 ·rw [Nat.mul_comm, Nat.mul_add_div hd, Nat.div_eq_of_lt h2]; simp
 ·rw [Nat.mul_comm, Nat.mul_add_mod, Nat.mod_eq_of_lt h2]
/-! comparing -/
def ord (a b : Nat) : Int := if a < b then -1 else if b < a then 1 else 0
theorem val_lt_pow {a : List Nat} (h : Ok a) : val a < 4294967296 ^ a.length := by
 induction a with
 | nil => simp [val]
 | cons x a ih =>
  have := ih h.tail
  have hx := h.head
  simp only [val, List.length_cons, Nat.pow_succ]
  omega
theorem val_drop_lt {a b : List Nat} (ha : Ok a) (i : Nat) (hl : a.length = b.length) (hi : i < a.length) (hd : a.drop (i + 1) = b.drop (i + 1)) (hlt : a[i] < b[i]'(by omega)) : val a < val b := by
 have e1 : a = a.take i ++ a[i] :: a.drop (i + 1) := by simp
 have e2 : b = b.take i ++ b[i]'(by omega) :: b.drop (i + 1) := by simp
 rw [e1, e2, val_append, val_append, val, val, hd]
 have h1 := val_lt_pow (ha.take i)
 simp only [List.length_take] at h1 ⊢
 rw [show min i a.length = i by omega] at *
 rw [show min i b.length = i by omega]
 have : a[i] + 4294967296 * val (List.drop (i + 1) b) + 1 ≤ b[i]'(by omega) + 4294967296 * val (List.drop (i + 1) b) := by omega
 have h3 := Nat.mul_le_mul_left (4294967296 ^ i) this
 rw [Nat.mul_add _ _ 1] at h3
 omega
theorem val_len_lt {a b : List Nat} (ha : Ok a) (hb : Nrm b) (h : a.length < b.length) : val a < val b := by
 have h1 := val_lt_pow ha
 have hne : b ≠ [] := by intro h0; subst h0; simp at h
 obtain ⟨l, x, rfl⟩ : ∃ l x, b = l ++ [x] := ⟨b.dropLast, b.getLast hne, (List.dropLast_concat_getLast hne).symm⟩
 have hx : x ≠ 0 := by intro h0; subst h0; simp [Nrm] at hb
 rw [val_append]
 simp only [val, List.length_append, List.length_singleton] at *
 have h2 : 4294967296 ^ a.length ≤ 4294967296 ^ l.length := Nat.pow_le_pow_right (by omega) (by omega)
 have h3 : 4294967296 ^ l.length * 1 ≤ 4294967296 ^ l.length * (x + 4294967296 * 0) := Nat.mul_le_mul_left _ (by omega)
 omega
/-! shifts -/
def shl (m : Nat) : List Nat → Nat → List Nat
 | [], c => [c]
 | x :: a, c => ((x * m) % 4294967296 + c) :: shl m a (x * m / 4294967296)
theorem val_shl (m : Nat) (a : List Nat) (c : Nat) : val (shl m a c) = val a * m + c := by
 induction a generalizing c with
 | nil => simp [shl, val]
 | cons x a ih => simp only [shl, val, ih, Nat.add_mul, Nat.mul_assoc]; omega
theorem length_shl (m : Nat) (a : List Nat) (c : Nat) : (shl m a c).length = a.length + 1 := by
 induction a generalizing c with
 | nil => rfl
 | cons x a ih => simp [shl, ih]
end Go.Proofs.YtfdmlfpldgobjaaGreatDoor.Big
/- Natural numbers as lists of limbs: plain facts. Conditions: none. -/
namespace Go.Proofs.YtfdmlfpldgobjaaGreatDoor.Big
/-! Knuth's guess. v1, v2: the two highest limbs of v; top = u0*B+u1; u2 the third. P = B^(n-2). -/
structure Shape (U V top u2 v1 v2 P : Nat) : Prop where
 hV : (v1 * 4294967296 + v2) * P ≤ V
 hV' : V < (v1 * 4294967296 + v2 + 1) * P
 hU : (top * 4294967296 + u2) * P ≤ U
 hU' : U < (top * 4294967296 + u2 + 1) * P
theorem guess_high {U V top u2 v1 v2 P g r : Nat} (S : Shape U V top u2 v1 v2 P) (hg : g * v1 + r = top) (h : r * 4294967296 + u2 < g * v2) : U < g * V := by
 have h1 : top * 4294967296 + u2 + 1 ≤ g * (v1 * 4294967296 + v2) := by
  rw [Nat.mul_add, ← Nat.mul_assoc, ← hg, Nat.add_mul]; omega
 have h2 := Nat.mul_le_mul_right P h1
 have h3 := Nat.mul_le_mul_left g S.hV
 rw [← Nat.mul_assoc] at h3
 exact Nat.lt_of_lt_of_le S.hU' (Nat.le_trans h2 h3)
theorem guess_low {U V top u2 v1 v2 P g r : Nat} (S : Shape U V top u2 v1 v2 P) (hv1 : 1 ≤ v1) (hg : g * v1 + r = top) (hB : g < 4294967297) (hg1 : 1 ≤ g) (h : g * v2 ≤ r * 4294967296 + u2) : (g - 1) * V ≤ U := by
 have h1 : g * (v1 * 4294967296 + v2) ≤ top * 4294967296 + u2 := by
  rw [Nat.mul_add, ← Nat.mul_assoc, ← hg, Nat.add_mul]; omega
 have h2 := Nat.mul_le_mul_right P h1
 obtain ⟨k, rfl⟩ : ∃ k, g = k + 1 := ⟨g - 1, by omega⟩
 simp only [Nat.add_sub_cancel]
 have h3 : k * V ≤ k * ((v1 * 4294967296 + v2 + 1) * P) := Nat.mul_le_mul_left _ (Nat.le_of_lt S.hV')
 have h4 : k * ((v1 * 4294967296 + v2 + 1) * P) = k * ((v1 * 4294967296 + v2) * P) + k * P := by
  rw [Nat.add_mul (v1 * 4294967296 + v2) 1 P, Nat.mul_add, Nat.one_mul]
 have h5 : (k + 1) * (v1 * 4294967296 + v2) * P = k * ((v1 * 4294967296 + v2) * P) + (v1 * 4294967296 + v2) * P := by
  rw [Nat.mul_assoc, Nat.add_mul, Nat.one_mul]
 have h6 : k * P ≤ (v1 * 4294967296 + v2) * P := Nat.mul_le_mul_right _ (by omega)
 have h7 := S.hU
 omega
theorem guess_start {U V top u2 v1 v2 P : Nat} (S : Shape U V top u2 v1 v2 P) (hu2 : u2 < 4294967296) (q : Nat) (hv1 : 1 ≤ v1) (hq : q * V ≤ U) : q ≤ top / v1 := by
 rw [Nat.le_div_iff_mul_le (by omega)]
 have h1 : q * ((v1 * 4294967296) * P) < (top + 1) * 4294967296 * P := by
  have := Nat.mul_le_mul_left q S.hV
  rw [Nat.add_mul, Nat.mul_add] at this
  have h2 := S.hU'
  have h3 : (top * 4294967296 + u2 + 1) * P ≤ (top + 1) * 4294967296 * P := Nat.mul_le_mul_right _ (by omega)
  omega
 have h4 : q * v1 * (4294967296 * P) < (top + 1) * (4294967296 * P) := by
  rw [Nat.mul_assoc q, Nat.mul_assoc (top + 1)] at *
  rwa [Nat.mul_assoc v1] at h1
 have := Nat.lt_of_mul_lt_mul_right h4
 omega
/-- what step's loop may end with -/
theorem guess_end {U V top u2 v1 v2 P g r : Nat} (S : Shape U V top u2 v1 v2 P) (hV0 : 0 < V) (hv1 : 1 ≤ v1) (hv2 : v2 < 4294967296) (hu2 : u2 < 4294967296) (hg : g * v1 + r = top) (hB : g < 4294967296) (hhi : U / V ≤ g)
  (h : g * v2 ≤ r * 4294967296 + u2 ∨ 4294967296 ≤ r) : g = U / V ∨ g = U / V + 1 := by
 by_cases h0 : g = 0
 ·left; subst h0; exact (Nat.le_zero.1 hhi).symm
 ·have h' : g * v2 ≤ r * 4294967296 + u2 := by
   rcases h with h | h
   ·exact h
   ·have h1 : g * v2 ≤ 4294967295 * 4294967295 := Nat.mul_le_mul (by omega) (by omega)
    omega
  have h1 := guess_low S hv1 hg (by omega) (by omega) h'
  have h2 : g - 1 ≤ U / V := (Nat.le_div_iff_mul_le hV0).2 h1
  omega
/-! multiply and subtract; c: carry, d: borrow -/
def subM (g : Nat) : List Nat → List Nat → Nat → Nat → List Nat × Nat × Nat
 | [], _, c, d => ([], c, d)
 | _ :: _, [], c, d => ([], c, d)
 | x :: v, y :: u, c, d =>
  let p := g * x + c
  let s := y + 18446744073709551616 - p % 4294967296 - d
  let r := subM g v u (p / 4294967296) (if y < p % 4294967296 + d then 1 else 0)
  (s % 4294967296 :: r.1, r.2)
theorem subM_spec (g : Nat) (v u : List Nat) (c d : Nat) (hl : v.length = u.length) (hd : d ≤ 1) (hu : Ok u) :
  val (subM g v u c d).1 + g * val v + c + d = val u + 4294967296 ^ v.length * ((subM g v u c d).2.1 + (subM g v u c d).2.2) ∧ (subM g v u c d).2.2 ≤ 1 := by
 induction v generalizing u c d with
 | nil => cases u with
  | nil => simp [subM, val]; exact hd
  | cons y u => simp at hl
 | cons x v ih => cases u with
  | nil => simp at hl
  | cons y u =>
   have hy := hu.head
   simp only [subM]
   by_cases hlt : y < (g * x + c) % 4294967296 + d
   ·rw [if_pos hlt]
    obtain ⟨h1, h2⟩ := ih u ((g * x + c) / 4294967296) 1 (by simpa using hl) (by omega) hu.tail
    refine ⟨?_, h2⟩
    simp only [val, List.length_cons, Nat.pow_succ]
    generalize (subM g v u ((g * x + c) / 4294967296) 1).2.1 + (subM g v u ((g * x + c) / 4294967296) 1).2.2 = t at *
    have e1 : g * (x + 4294967296 * val v) = g * x + 4294967296 * (g * val v) := by rw [Nat.mul_add, Nat.mul_left_comm]
    have e2 : 4294967296 ^ v.length * 4294967296 * t = 4294967296 * (4294967296 ^ v.length * t) := by rw [Nat.mul_comm (4294967296 ^ v.length), Nat.mul_assoc]
    rw [e1, e2]
    omega
   ·rw [if_neg hlt]
    obtain ⟨h1, h2⟩ := ih u ((g * x + c) / 4294967296) 0 (by simpa using hl) (by omega) hu.tail
    refine ⟨?_, h2⟩
    simp only [val, List.length_cons, Nat.pow_succ]
    generalize (subM g v u ((g * x + c) / 4294967296) 0).2.1 + (subM g v u ((g * x + c) / 4294967296) 0).2.2 = t at *
    have e1 : g * (x + 4294967296 * val v) = g * x + 4294967296 * (g * val v) := by rw [Nat.mul_add, Nat.mul_left_comm]
    have e2 : 4294967296 ^ v.length * 4294967296 * t = 4294967296 * (4294967296 ^ v.length * t) := by rw [Nat.mul_comm (4294967296 ^ v.length), Nat.mul_assoc]
    rw [e1, e2]
    omega
theorem length_subM (g : Nat) (v u : List Nat) (c d : Nat) (hl : v.length = u.length) : (subM g v u c d).1.length = v.length := by
 induction v generalizing u c d with
 | nil => simp [subM]
 | cons x v ih => cases u with
  | nil => simp at hl
  | cons y u => simp only [subM, List.length_cons]; rw [ih]; simpa using hl
theorem ok_subM (g : Nat) (v u : List Nat) (c d : Nat) : Ok (subM g v u c d).1 := by
 induction v generalizing u c d with
 | nil => simp [subM, Ok]
 | cons x v ih => cases u with
  | nil => simp [subM, Ok]
  | cons y u => simp only [subM]; exact Ok.cons (by omega) (ih _ _ _)
theorem subM_carry (g : Nat) (v u : List Nat) (c d : Nat) (hg : g < 4294967296) (hv : Ok v) (hc : c < 4294967296) : (subM g v u c d).2.1 < 4294967296 := by
 induction v generalizing u c d with
 | nil => simpa [subM] using hc
 | cons x v ih => cases u with
  | nil => simpa [subM] using hc
  | cons y u =>
   simp only [subM]
   have := mul_bound hg hv.head (p := 0) (by omega) hc
   exact ih _ _ _ hv.tail (by omega)
/-! add back -/
def addB : List Nat → List Nat → Nat → List Nat × Nat
 | [], _, c => ([], c)
 | _ :: _, [], c => ([], c)
 | x :: v, y :: u, c => let r := addB v u ((y + x + c) / 4294967296); ((y + x + c) % 4294967296 :: r.1, r.2)
theorem addB_spec (v u : List Nat) (c : Nat) (hl : v.length = u.length) : val (addB v u c).1 + 4294967296 ^ v.length * (addB v u c).2 = val u + val v + c := by
 induction v generalizing u c with
 | nil => cases u with
  | nil => simp [addB, val]
  | cons y u => simp at hl
 | cons x v ih => cases u with
  | nil => simp at hl
  | cons y u =>
   have h1 := ih u ((y + x + c) / 4294967296) (by simpa using hl)
   simp only [addB, val, List.length_cons, Nat.pow_succ]
   generalize (addB v u ((y + x + c) / 4294967296)).2 = t at *
   have e2 : 4294967296 ^ v.length * 4294967296 * t = 4294967296 * (4294967296 ^ v.length * t) := by rw [Nat.mul_comm (4294967296 ^ v.length), Nat.mul_assoc]
   rw [e2]; omega
theorem length_addB (v u : List Nat) (c : Nat) (hl : v.length = u.length) : (addB v u c).1.length = v.length := by
 induction v generalizing u c with
 | nil => simp [addB]
 | cons x v ih => cases u with
  | nil => simp at hl
  | cons y u => simp only [addB, List.length_cons]; rw [ih]; simpa using hl
theorem ok_addB (v u : List Nat) (c : Nat) : Ok (addB v u c).1 := by
 induction v generalizing u c with
 | nil => simp [addB, Ok]
 | cons x v ih => cases u with
  | nil => simp [addB, Ok]
  | cons y u => simp only [addB]; exact Ok.cons (by omega) (ih _ _)
/-- Go's step: u is low (n limbs) and its highest limb h; g the guess. The new limbs of u, the new highest, the quotient's digit. -/
def stepL (g : Nat) (v low : List Nat) (h : Nat) : List Nat × Nat × Nat :=
 let m := subM g v low 0 0
 if m.2.1 + m.2.2 ≤ h then (m.1, h - m.2.1 - m.2.2, g)
 else
  let b := addB v m.1 0
  (b.1, (h + 18446744073709551616 - m.2.1 - m.2.2 + b.2) % 4294967296, g - 1)
theorem stepL_spec {g h : Nat} {v low : List Nat} (hl : v.length = low.length) (hlo : Ok low) (hh : h < 4294967296) (hv : Ok v) (hg : g < 4294967296) (hV : 0 < val v)
  (hq : g = val (low ++ [h]) / val v ∨ g = val (low ++ [h]) / val v + 1) :
  (stepL g v low h).2.2 = val (low ++ [h]) / val v ∧ val (stepL g v low h).1 = val (low ++ [h]) % val v ∧ (stepL g v low h).2.1 = 0 ∧ Ok (stepL g v low h).1 ∧ (stepL g v low h).1.length = v.length := by
 obtain ⟨hs, hd⟩ := subM_spec g v low 0 0 hl (by omega) hlo
 have hlen := length_subM g v low 0 0 hl
 have hok := ok_subM g v low 0 0
 have hcar := subM_carry g v low 0 0 hg hv (by omega)
 have hU : val (low ++ [h]) = val low + 4294967296 ^ v.length * h := by rw [val_append, hl]; simp [val]
 have hmod := Nat.div_add_mod (val (low ++ [h])) (val v)
 have hml := Nat.mod_lt (val (low ++ [h])) hV
 have hvp := val_lt_pow hv
 generalize hUU : val (low ++ [h]) = U at *
 have hm1 := val_lt_pow hok
 rw [hlen] at hm1
 unfold stepL
 simp only
 generalize hM : subM g v low 0 0 = m at *
 obtain ⟨m1, c, d⟩ := m
 simp only at *
 generalize hP : 4294967296 ^ v.length = P at *
 by_cases hle : c + d ≤ h
 ·rw [if_pos hle]
  simp only
  have h1 : P * (c + d) ≤ P * h := Nat.mul_le_mul_left _ hle
  have hge : g * val v ≤ U := by omega
  have hgq : g = U / val v := by
   rcases hq with h | h
   ·exact h
   ·have : g ≤ U / val v := (Nat.le_div_iff_mul_le hV).2 hge
    omega
  have hval : val m1 + P * (h - c - d) = U % val v := by
   have e : P * h = P * (c + d) + P * (h - c - d) := by rw [← Nat.mul_add]; congr 1; omega
   rw [← hgq, Nat.mul_comm] at hmod
   omega
  have hz : h - c - d = 0 := by
   rcases Nat.eq_zero_or_pos (h - c - d) with h0 | h0
   ·exact h0
   ·have := Nat.mul_le_mul_left P h0
    omega
  rw [hz] at hval ⊢
  exact ⟨hgq, by omega, rfl, hok, hlen⟩
 ·rw [if_neg hle]
  have hb := addB_spec v m1 0 (by omega)
  have hbl := length_addB v m1 0 (by omega)
  have hbo := ok_addB v m1 0
  generalize hBk : addB v m1 0 = b at *
  obtain ⟨b1, e⟩ := b
  simp only at *
  rw [hP] at hb
  have hlt : h + 1 ≤ c + d := by omega
  have h1 : P * (h + 1) ≤ P * (c + d) := Nat.mul_le_mul_left _ hlt
  rw [Nat.mul_add] at h1
  have hgt : U < g * val v := by omega
  have hgq : g = U / val v + 1 := by
   rcases hq with h | h
   ·rw [h, Nat.mul_comm] at hgt; omega
   ·exact h
  have hgv : g * val v = val v * (U / val v) + val v := by rw [hgq, Nat.add_mul, Nat.one_mul, Nat.mul_comm]
  have hb1 := val_lt_pow hbo
  rw [hbl, hP] at hb1
  -- val b1 + P*e + P*h = U % val v + P*(c+d)
  have key : val b1 + P * (e + h) = U % val v + P * (c + d) := by
   rw [Nat.mul_add]; omega
  have he : e + h = c + d := by
   rcases Nat.lt_trichotomy (e + h) (c + d) with h2 | h2 | h2
   ·have := Nat.mul_le_mul_left P (show e + h + 1 ≤ c + d from h2)
    rw [Nat.mul_add] at this; omega
   ·exact h2
   ·have := Nat.mul_le_mul_left P (show c + d + 1 ≤ e + h from h2)
    rw [Nat.mul_add] at this; omega
  rw [he] at key
  refine ⟨by rw [hgq]; rfl, by omega, ?_, hbo, hbl⟩
  have e1 : h + 18446744073709551616 - c - d + e = 18446744073709551616 := by omega
  rw [e1]
end Go.Proofs.YtfdmlfpldgobjaaGreatDoor.Big
/- Natural numbers as lists of limbs: shifts, long division. Conditions: none. -/
namespace Go.Proofs.YtfdmlfpldgobjaaGreatDoor.Big
def shrL (m : Nat) : List Nat → List Nat
 | [] => []
 | [x] => [x / m % 4294967296]
 | x :: y :: r => ((x + 4294967296 * y) / m % 4294967296) :: shrL m (y :: r)
theorem ok_shrL (m : Nat) (a : List Nat) : Ok (shrL m a) := by
 induction a with
 | nil => exact .nil
 | cons x r ih => cases r with
  | nil => exact Ok.cons (Nat.mod_lt _ (by omega)) .nil
  | cons y s => rw [shrL]; exact Ok.cons (Nat.mod_lt _ (by omega)) ih
theorem shr_digit {m k x v : Nat} (hm : m * k = 4294967296) (hx : x < 4294967296) : (x + 4294967296 * v) / m = x / m + k * v ∧ (x / m + k * v) % 4294967296 = x / m + k * (v % m) := by
  have hm0 : 0 < m := by rcases Nat.eq_zero_or_pos m with h | h; · subst h; omega
                         · exact h
  have hk0 : 0 < k := by rcases Nat.eq_zero_or_pos k with h | h; · subst h; omega
                         · exact h
  have e1 : (x + 4294967296 * v) / m = x / m + k * v := by
    rw [← hm, Nat.mul_assoc, Nat.add_mul_div_left _ _ hm0]
  refine ⟨e1, ?_⟩
  have hxm : x / m < k := by rw [Nat.div_lt_iff_lt_mul hm0, Nat.mul_comm, hm]; exact hx
  have e2 : x / m + k * v = (x / m + k * (v % m)) + 4294967296 * (v / m) := by
    have := Nat.mod_add_div v m
    rw [← hm, Nat.mul_comm m k, Nat.mul_assoc]
    have h3 : k * v = k * (v % m) + k * (m * (v / m)) := by rw [← Nat.mul_add, this]
    omega
  have hlt : x / m + k * (v % m) < 4294967296 := by
    have h4 := Nat.mod_lt v hm0
    have h5 := Nat.mul_le_mul_left k (show v % m + 1 ≤ m from h4)
    rw [Nat.mul_comm k m, hm, Nat.mul_add] at h5
    omega
  rw [e2, Nat.add_mul_mod_self_left, Nat.mod_eq_of_lt hlt]
theorem val_shrL {m k : Nat} (hm : m * k = 4294967296) (a : List Nat) (ha : Ok a) : val (shrL m a) = val a / m := by
  have hm0 : 0 < m := by rcases Nat.eq_zero_or_pos m with h | h; · subst h; omega
                         · exact h
  induction a with
  | nil => simp [shrL, val]
  | cons x r ih => cases r with
    | nil =>
      have hx := ha.head
      simp only [shrL, val, Nat.mul_zero, Nat.add_zero]
      exact Nat.mod_eq_of_lt (Nat.lt_of_le_of_lt (Nat.div_le_self _ _) hx)
    | cons y s =>
      have ih' := ih ha.tail
      have hx := ha.head
      have ev : val (x :: y :: s) = x + 4294967296 * val (y :: s) := rfl
      rw [shrL, val, ih', ev]
      obtain ⟨d1, d2⟩ := shr_digit (v := y) hm hx
      obtain ⟨d3, _⟩ := shr_digit (v := val (y :: s)) hm hx
      rw [d1, d2, d3]
      have e : val (y :: s) % m = y % m := by
        rw [val, ← hm, Nat.mul_assoc, Nat.add_mul_mod_self_left]
      have h2 := Nat.mod_add_div (val (y :: s)) m
      rw [e] at h2
      have h3 : k * val (y :: s) = k * (y % m) + 4294967296 * (val (y :: s) / m) := by
        rw [← hm, Nat.mul_comm m k, Nat.mul_assoc, ← Nat.mul_add, h2]
      omega
theorem ok_shl (m : Nat) (a : List Nat) (c k : Nat) (hm : m * k = 4294967296) (ha : Ok a) (hc : c < m) : Ok (shl m a c) := by
  have hm0 : 0 < m := by omega
  have hk0 : 0 < k := by rcases Nat.eq_zero_or_pos k with h | h; · subst h; omega
                         · exact h
  have hmB : m ≤ 4294967296 := by have := Nat.mul_le_mul_left m hk0; omega
  induction a generalizing c with
  | nil => simp [shl, Ok]; omega
  | cons x a ih =>
    have hx := ha.head
    rw [shl]
    have e : x * m % 4294967296 = m * (x % k) := by rw [← hm, Nat.mul_comm x m]; exact Nat.mul_mod_mul_left m x k
    have hk := Nat.mod_lt x hk0
    have h5 := Nat.mul_le_mul_left m (show x % k + 1 ≤ k from hk)
    rw [hm, Nat.mul_add] at h5
    refine Ok.cons (by omega) (ih _ ha.tail ?_)
    rw [Nat.div_lt_iff_lt_mul (by omega), Nat.mul_comm m]
    exact Nat.mul_lt_mul_of_pos_right hx hm0
theorem shl_or {x m k c n : Nat} (hm : m * k = 4294967296) (hn : m = 2 ^ n) (_hc : c < m) : (x * m % 4294967296) % 2 ^ n = 0 := by
 have e : x * m % 4294967296 = m * (x % k) := by rw [← hm, Nat.mul_comm x m]; exact Nat.mul_mod_mul_left m x k
 rw [e, ← hn]
 exact Nat.mul_mod_right _ _
end Go.Proofs.YtfdmlfpldgobjaaGreatDoor.Big
/- Natural numbers as lists of limbs: the guess of long division at lists. Conditions: none. -/
namespace Go.Proofs.YtfdmlfpldgobjaaGreatDoor.Big
theorem split_top {l : List Nat} {n : Nat} (hl : l.length = n) (h2 : 2 ≤ n) : l = l.take (n - 2) ++ [l.getD (n - 2) 0, l.getD (n - 1) 0] := by
 have e1 : l.drop (n - 2) = [l.getD (n - 2) 0, l.getD (n - 1) 0] := by
  rw [List.drop_eq_getElem_cons (by omega), List.drop_eq_getElem_cons (by omega), List.drop_of_length_le (by omega)]
  have a1 : n - 2 < l.length := by omega
  have a2 : n - 1 < l.length := by omega
  simp [List.getD_eq_getElem?_getD, a1, a2, show n - 2 + 1 = n - 1 by omega]
 conv => lhs; rw [← List.take_append_drop (n - 2) l, e1]
theorem shape_of {low vs : List Nat} {h n : Nat} (hl : low.length = n) (hv : vs.length = n) (h2 : 2 ≤ n) (okl : Ok low) (okv : Ok vs) :
  Shape (val (low ++ [h])) (val vs) (h * 4294967296 + low.getD (n - 1) 0) (low.getD (n - 2) 0) (vs.getD (n - 1) 0) (vs.getD (n - 2) 0) (4294967296 ^ (n - 2)) := by
 have e1 := split_top hl h2
 have e2 := split_top hv h2
 have t1 := val_lt_pow (okl.take (n - 2))
 have t2 := val_lt_pow (okv.take (n - 2))
 have l1 : (low.take (n - 2)).length = n - 2 := by simp; omega
 have l2 : (vs.take (n - 2)).length = n - 2 := by simp; omega
 have vu : val (low ++ [h]) = val (low.take (n - 2)) + 4294967296 ^ (n - 2) * ((h * 4294967296 + low.getD (n - 1) 0) * 4294967296 + low.getD (n - 2) 0) := by
  conv => lhs; rw [e1, List.append_assoc, val_append, l1]
  simp only [List.cons_append, List.nil_append, val]
  congr 2; omega
 have vv : val vs = val (vs.take (n - 2)) + 4294967296 ^ (n - 2) * (vs.getD (n - 1) 0 * 4294967296 + vs.getD (n - 2) 0) := by
  conv => lhs; rw [e2, val_append, l2]
  simp only [val]
  congr 2; omega
 rw [l1] at t1
 rw [l2] at t2
 generalize 4294967296 ^ (n - 2) = P at *
 refine ⟨?_, ?_, ?_, ?_⟩
 ·rw [vv, Nat.mul_comm P]; omega
 ·rw [vv, Nat.mul_comm P, Nat.add_mul _ 1 P]; omega
 ·rw [vu, Nat.mul_comm P]; omega
 ·rw [vu, Nat.mul_comm P, Nat.add_mul _ 1 P]; omega
theorem quot_lt {low vs : List Nat} {h : Nat} (hU : val (low ++ [h]) < val vs * 4294967296) : val (low ++ [h]) / val vs < 4294967296 := by
  rw [Nat.div_lt_iff_lt_mul (by rcases Nat.eq_zero_or_pos (val vs) with h | h; · rw [h] at hU; omega
                                · exact h), Nat.mul_comm]
  exact hU
theorem succ_B (v1 v2 : Nat) (h : v2 < 4294967296) : v1 * 4294967296 + v2 + 1 ≤ (v1 + 1) * 4294967296 := by omega
/-- the first guess is at most one beyond a limb -/
theorem guess_first {U V top u2 v1 v2 P : Nat} (S : Shape U V top u2 v1 v2 P) (hU : U < V * 4294967296) (hv2 : v2 < 4294967296) : top < (v1 + 1) * 4294967296 := by
 have h1 := S.hU
 have h2 := S.hV'
 have h3 : V * 4294967296 ≤ ((v1 * 4294967296 + v2 + 1) * P) * 4294967296 := by omega
 have h0 := succ_B v1 v2 hv2
 have h4 : (v1 * 4294967296 + v2 + 1) * P ≤ ((v1 + 1) * 4294967296) * P := Nat.mul_le_mul_right P h0
 have h5 : (top * 4294967296) * P ≤ (top * 4294967296 + u2) * P := Nat.mul_le_mul_right P (Nat.le_add_right _ _)
 have e1 : (top * 4294967296) * P = (top * P) * 4294967296 := Nat.mul_right_comm _ _ _
 have h6 : top * P < ((v1 + 1) * 4294967296) * P := by omega
 exact Nat.lt_of_mul_lt_mul_right h6
theorem subM_pos {g h c d : Nat} {v low : List Nat} (hl : v.length = low.length) (hlo : Ok low) (hm : (subM g v low 0 0).2 = (c, d)) (hlt : h < c + d) : 1 ≤ g := by
 rcases Nat.eq_zero_or_pos g with h0 | h0
 ·exfalso
  obtain ⟨hs, hd⟩ := subM_spec g v low 0 0 hl (by omega) hlo
  have h1 := val_lt_pow (ok_subM g v low 0 0)
  rw [length_subM g v low 0 0 hl] at h1
  rw [hm] at hs
  subst h0
  have := Nat.mul_le_mul_left (4294967296 ^ v.length) (show 1 ≤ c + d by omega)
  simp only at hs
  omega
 ·exact h0
end Go.Proofs.YtfdmlfpldgobjaaGreatDoor.Big
/- Natural numbers as lists of limbs: normalizing, the loop of long division. Conditions: none. -/
namespace Go.Proofs.YtfdmlfpldgobjaaGreatDoor.Big
theorem bitLen_bd : ∀ x : Nat, x ≠ 0 → x < 2 ^ 64 → 2 ^ (Lib.bitLen x - 1) ≤ x ∧ x < 2 ^ Lib.bitLen x ∧ 1 ≤ Lib.bitLen x := by
 intro x
 induction x using Nat.strongRecOn with
 | _ x ih =>
  intro h0 hx
  have e := Lib.bitLen_half x h0 hx
  by_cases h1 : x / 2 = 0
  ·have : x = 1 := by omega
   subst this
   decide
  ·obtain ⟨i1, i2, i3⟩ := ih (x / 2) (by omega) h1 (by omega)
   rw [e]
   clear e
   generalize Lib.bitLen (x / 2) = L at *
   obtain ⟨k, rfl⟩ : ∃ k, L = k + 1 := ⟨L - 1, by omega⟩
   simp only [Nat.add_sub_cancel] at *
   rw [show 1 + (k + 1) - 1 = k + 1 by omega, show 1 + (k + 1) = k + 2 by omega]
   rw [Nat.pow_succ] at i2
   rw [Nat.pow_succ, Nat.pow_succ, Nat.pow_succ]
   omega
theorem norm_shift {t : Nat} (h0 : t ≠ 0) (ht : t < 4294967296) : Lib.bitLen t ≤ 32 ∧ 2147483648 ≤ t * 2 ^ (32 - Lib.bitLen t) ∧ t * 2 ^ (32 - Lib.bitLen t) < 4294967296 ∧ 1 ≤ Lib.bitLen t := by
 have hle : Lib.bitLen t ≤ 32 := Lib.bitLen_le t 32 (by omega) (by omega)
 obtain ⟨b1, b2, b3⟩ := bitLen_bd t h0 (by omega)
 refine ⟨hle, ?_, ?_, b3⟩
 ·have h := Nat.mul_le_mul_right (2 ^ (32 - Lib.bitLen t)) b1
  rw [← Nat.pow_add, show Lib.bitLen t - 1 + (32 - Lib.bitLen t) = 31 by omega] at h
  simpa using h
 ·have h := Nat.mul_lt_mul_of_pos_right b2 (show 0 < 2 ^ (32 - Lib.bitLen t) from Nat.pow_pos (by omega))
  rw [← Nat.pow_add, show Lib.bitLen t + (32 - Lib.bitLen t) = 32 by omega] at h
  simpa using h
/-- a shift that does not overflow the last limb -/
theorem shl_last {m : Nat} : ∀ (bs : List Nat) (c t : Nat), bs.getLast? = some t → t * m < 4294967296 → ∃ vs : List Nat, shl m bs c = vs ++ [0] ∧ vs.length = bs.length ∧ t * m ≤ vs.getD (bs.length - 1) 0 := by
 intro bs
 induction bs with
 | nil => intro c t h; simp at h
 | cons x r ih =>
  intro c t hlast hm
  cases r with
  | nil =>
   simp at hlast
   subst hlast
   refine ⟨[x * m % 4294967296 + c], ?_, rfl, ?_⟩
   ·simp [shl, Nat.div_eq_of_lt hm]
   ·simp [Nat.mod_eq_of_lt hm]
  | cons y s =>
   rw [List.getLast?_cons_cons] at hlast
   obtain ⟨vs, h1, h2, h3⟩ := ih (x * m / 4294967296) t hlast hm
   refine ⟨(x * m % 4294967296 + c) :: vs, by rw [shl, h1]; rfl, by simp [h2], ?_⟩
   simpa using h3
theorem nrm_last {l : List Nat} (h : Nrm l) (hl : l ≠ []) : ∃ t, l.getLast? = some t ∧ t ≠ 0 := by
 obtain ⟨t, ht⟩ : ∃ t, l.getLast? = some t := by
  cases e : l.getLast? with
  | none => exact absurd (List.getLast?_eq_none_iff.1 e) hl
  | some t => exact ⟨t, rfl⟩
 exact ⟨t, ht, fun h0 => h (by rw [ht, h0])⟩
theorem val_ge_pow {b : List Nat} (nb : Nrm b) (hb : b ≠ []) : 4294967296 ^ (b.length - 1) ≤ val b := by
 obtain ⟨l, x, rfl⟩ : ∃ l x, b = l ++ [x] := ⟨b.dropLast, b.getLast hb, (List.dropLast_concat_getLast hb).symm⟩
 have hx : x ≠ 0 := by intro h0; subst h0; simp [Nrm] at nb
 rw [val_append]
 simp only [val, List.length_append, List.length_singleton, Nat.add_sub_cancel]
 have h3 : 4294967296 ^ l.length * 1 ≤ 4294967296 ^ l.length * (x + 4294967296 * 0) := Nat.mul_le_mul_left _ (by omega)
 omega
/-- what the loop of divide holds: us the shifted dividend, V the divisor's value, n its length -/
structure LongAt (us : List Nat) (V n m k : Nat) (U qs : List Nat) : Prop where
 ex : ∃ rem qq : List Nat, U = us.take k ++ rem ++ List.replicate (m - k) 0 ∧ rem.length = n ∧ Ok rem ∧ val rem < V ∧ qs = List.replicate k 0 ++ qq ∧ qq.length = m - k ∧ Ok qq ∧ val (us.drop k) = val qq * V + val rem
theorem LongAt.start {us : List Nat} {V n m : Nat} (ho : Ok us) (hl : us.length = m + n) (hv : val (us.drop m) < V) : LongAt us V n m m us (List.replicate m 0) :=
 ⟨us.drop m, [], by simp, by simp; omega, ho.drop _, hv, by simp, by simp, .nil, by simp [val]⟩
theorem LongAt.window {us U qs : List Nat} {V n m k : Nat} (h : LongAt us V n m k U qs) (ho : Ok us) (hk : 0 < k) (hkl : k ≤ us.length) (hkm : k ≤ m) (hn : 0 < n) :
    ∃ low t Q, U = us.take (k - 1) ++ low ++ [t] ++ Q ∧ low.length = n ∧ Ok low ∧ t < 4294967296 ∧ val (low ++ [t]) < V * 4294967296 ∧
      ∀ rem', rem'.length = n → Ok rem' → val rem' = val (low ++ [t]) % V → 0 < V → LongAt us V n m (k - 1) (us.take (k - 1) ++ rem' ++ [0] ++ Q) (qs.set (k - 1) (val (low ++ [t]) / V)) := by
  obtain ⟨rem, qq, h1, h2, h3, h4, h5, h6, h7, h8⟩ := h.ex
  have hk1 : k - 1 < us.length := by omega
  have ht : us.take k = us.take (k - 1) ++ [us[k - 1]] := by
    have : k = (k - 1) + 1 := by omega
    conv => lhs; rw [this]
    rw [List.take_succ_eq_append_getElem hk1]
  have hd : us.drop (k - 1) = us[k - 1] :: us.drop k := by rw [List.drop_eq_getElem_cons hk1, show k - 1 + 1 = k by omega]
  have hx := ho.get hk1
  have hw : us[k - 1] :: rem ≠ [] := by simp
  have hsplit : us[k - 1] :: rem = (us[k - 1] :: rem).dropLast ++ [(us[k - 1] :: rem).getLast hw] := (List.dropLast_concat_getLast hw).symm
  have hok : Ok (us[k - 1] :: rem) := Ok.cons hx h3
  have hval : val ((us[k - 1] :: rem).dropLast ++ [(us[k - 1] :: rem).getLast hw]) = us[k - 1] + 4294967296 * val rem := by rw [← hsplit]; rfl
  refine ⟨(us[k - 1] :: rem).dropLast, (us[k - 1] :: rem).getLast hw, List.replicate (m - k) 0, ?_, by simp [h2], ?_, hok _ (List.getLast_mem hw), ?_, ?_⟩
  · have e : ∀ a b c R : List Nat, a ++ b ++ c ++ R = a ++ (b ++ c) ++ R := fun a b c R => by simp
    rw [e, ← hsplit, h1, ht]; simp only [List.append_assoc, List.cons_append, List.nil_append]
  · rw [hsplit] at hok; exact hok.left
  · rw [hval]; omega
  · intro rem' r1 r2 r3 hV
    rw [hval] at r3 ⊢
    have hq : (us[k - 1] + 4294967296 * val rem) / V < 4294967296 := by
      rw [Nat.div_lt_iff_lt_mul hV, Nat.mul_comm 4294967296 V]
      omega
    have hdm := Nat.div_add_mod (us[k - 1] + 4294967296 * val rem) V
    refine ⟨rem', (us[k - 1] + 4294967296 * val rem) / V :: qq, ?_, r1, r2, ?_, ?_, ?_, Ok.cons hq h7, ?_⟩
    · rw [show m - (k - 1) = (m - k) + 1 by omega, List.replicate_succ]; simp
    · rw [r3]; exact Nat.mod_lt _ hV
    · rw [h5, show List.replicate k 0 = List.replicate (k - 1) 0 ++ [0] by
          obtain ⟨j, rfl⟩ : ∃ j, k = j + 1 := ⟨k - 1, by omega⟩
          simp [List.replicate_succ'], List.append_assoc, List.set_append_right _ _ (by simp)]
      simp
    · simp [h6]; omega
    · rw [hd, val, h8, r3, val, Nat.add_mul, Nat.mul_add, ← Nat.mul_assoc 4294967296]
      rw [Nat.mul_comm V] at hdm
      omega
end Go.Proofs.YtfdmlfpldgobjaaGreatDoor.Big
/- Digits of a number in a base, the least significant first. Conditions: none. -/
namespace Go.Proofs.YtfdmlfpldgobjaaGreatDoor.Big
def digs (b n : Nat) : List Nat := if h : n = 0 ∨ b < 2 then [] else n % b :: digs b (n / b)
termination_by n
decreasing_by exact Nat.div_lt_self (by omega) (by omega)
theorem digs_zero (b : Nat) : digs b 0 = [] := by rw [digs]; simp
theorem digs_pos {b n : Nat} (hb : 2 ≤ b) (h : n ≠ 0) : digs b n = n % b :: digs b (n / b) := by
 rw [digs, dif_neg (by omega)]
/-- the value of digits, the most significant first, behind a number -/
def ofd (b : Nat) (m : Nat) (l : List Nat) : Nat := l.foldl (fun m d => m * b + d) m
theorem ofd_app (b m : Nat) (l k : List Nat) : ofd b m (l ++ k) = ofd b (ofd b m l) k := by simp [ofd]
theorem ofd_digs {b : Nat} (hb : 2 ≤ b) (n : Nat) : ofd b 0 (digs b n).reverse = n := by
 induction n using Nat.strongRecOn with
 | _ n ih =>
  by_cases h : n = 0
  ·subst h; rw [digs_zero]; rfl
  ·rw [digs_pos hb h, List.reverse_cons, ofd_app, ih _ (Nat.div_lt_self (by omega) (by omega))]
   show n / b * b + n % b = n
   rw [Nat.mul_comm]; exact Nat.div_add_mod n b
theorem digs_lt {b : Nat} (hb : 2 ≤ b) (n : Nat) : ∀ d ∈ digs b n, d < b := by
 induction n using Nat.strongRecOn with
 | _ n ih =>
  by_cases h : n = 0
  ·subst h; rw [digs_zero]; simp
  ·rw [digs_pos hb h]
   intro d hd
   rcases List.mem_cons.1 hd with rfl | hd
   ·exact Nat.mod_lt _ (by omega)
   ·exact ih _ (Nat.div_lt_self (by omega) (by omega)) d hd
theorem digs_ne {b n : Nat} (hb : 2 ≤ b) (h : n ≠ 0) : digs b n ≠ [] := by rw [digs_pos hb h]; simp
theorem digs_last {b : Nat} (hb : 2 ≤ b) (n : Nat) (h : n ≠ 0) : (digs b n).getLast? ≠ some 0 := by
 induction n using Nat.strongRecOn with
 | _ n ih =>
  rw [digs_pos hb h]
  by_cases h0 : n / b = 0
  ·rw [h0, digs_zero]
   have : n < b := by rcases Nat.div_eq_zero_iff.1 h0 with h | h <;> omega
   rw [Nat.mod_eq_of_lt this]
   simpa using h
  ·have := ih _ (Nat.div_lt_self (by omega) (by omega)) h0
   rw [List.getLast?_cons]
   cases hq : digs b (n / b) with
   | nil => exact absurd hq (digs_ne hb h0)
   | cons x r => rw [hq] at this; simpa [List.getLast?_cons] using this
end Go.Proofs.YtfdmlfpldgobjaaGreatDoor.Big
/- Decimal digits, by nines. Conditions: none. -/
namespace Go.Proofs.YtfdmlfpldgobjaaGreatDoor.Big
open Go.Lib
def ch (d : Nat) : UInt8 := UInt8.ofNat (48 + d)
theorem dec_small {n : Nat} (h : n < 10) : decDigits n = [ch n] := by rw [decDigits, dif_pos h]; rfl
theorem dec_big {n : Nat} (h : ¬ n < 10) : decDigits n = decDigits (n / 10) ++ [ch (n % 10)] := by rw [decDigits, dif_neg h]; rfl
def padk : Nat → Nat → List UInt8
 | 0, _ => []
 | k + 1, r => padk k (r / 10) ++ [ch (r % 10)]
theorem dec_pad (k : Nat) : ∀ q r, 1 ≤ q → r < 10 ^ k → decDigits (q * 10 ^ k + r) = decDigits q ++ padk k r := by
 induction k with
 | zero => intro q r hq hr; simp at hr; subst hr; simp [padk]
 | succ k ih =>
  intro q r hq hr
  rw [Nat.pow_succ] at hr ⊢
  have h1 : 1 ≤ 10 ^ k := Nat.one_le_pow _ _ (by omega)
  generalize hQ : 10 ^ k = Q at *
  have h2 : 1 ≤ q * Q := Nat.mul_le_mul hq h1
  have e : q * (Q * 10) = q * Q * 10 := by rw [Nat.mul_assoc]
  rw [e]
  generalize hqq : q * Q = qq at *
  rw [dec_big (by omega), show (qq * 10 + r) / 10 = qq + r / 10 by omega, show (qq * 10 + r) % 10 = r % 10 by omega]
  have := ih q (r / 10) hq (by omega)
  rw [hqq] at this
  rw [this, padk, List.append_assoc]
theorem rep_snoc (k : Nat) : repeatL [48] k ++ [48] = repeatL [48] (k + 1) := by
 induction k with
 | zero => rfl
 | succ k ih => rw [repeatL, List.append_assoc, ih]; rfl
theorem padk_eq (k : Nat) : ∀ r, r < 10 ^ (k + 1) → (decDigits r).length ≤ k + 1 ∧ padk (k + 1) r = repeatL [48] (k + 1 - (decDigits r).length) ++ decDigits r := by
 induction k with
 | zero => intro r hr; simp at hr; rw [dec_small hr]; simp [padk, repeatL, Nat.mod_eq_of_lt hr]
 | succ k ih =>
  intro r hr
  rw [Nat.pow_succ] at hr
  have hd : r / 10 < 10 ^ (k + 1) := by omega
  obtain ⟨h1, h2⟩ := ih _ hd
  rw [padk, h2]
  by_cases h : r < 10
  ·have e0 : r / 10 = 0 := by omega
   rw [e0, dec_small (show (0 : Nat) < 10 by omega), dec_small h, Nat.mod_eq_of_lt h]
   refine ⟨by simp, ?_⟩
   have := rep_snoc k
   simp only [List.length_singleton]
   rw [show k + 1 - 1 = k by omega, show k + 1 + 1 - 1 = k + 1 by omega]
   rw [show ([ch 0] : List UInt8) = [48] from rfl, rep_snoc]
  ·rw [dec_big h]
   refine ⟨by simp; omega, ?_⟩
   simp only [List.length_append, List.length_singleton]
   rw [show k + 1 + 1 - ((decDigits (r / 10)).length + 1) = k + 1 - (decDigits (r / 10)).length by omega, List.append_assoc]
theorem dec_digs (n : Nat) (h : n ≠ 0) : decDigits n = (digs 10 n).reverse.map ch := by
 induction n using Nat.strongRecOn with
 | _ n ih =>
  rw [digs_pos (by omega) h]
  by_cases h1 : n < 10
  ·rw [dec_small h1, show n / 10 = 0 by omega, digs_zero, Nat.mod_eq_of_lt h1]; rfl
  ·rw [dec_big h1, ih _ (by omega) (by omega)]; simp
/-- the digits that chunks of nine make, the least chunk first -/
def outC : List Nat → List UInt8
 | [] => []
 | c :: rest => outC rest ++ (if rest = [] then decDigits c else repeatL [48] (9 - (decDigits c).length) ++ decDigits c)
theorem outC_digs (n : Nat) (h : n ≠ 0) : outC (digs 1000000000 n) = decDigits n := by
 induction n using Nat.strongRecOn with
 | _ n ih =>
  rw [digs_pos (by omega) h, outC]
  by_cases h1 : n / 1000000000 = 0
  ·rw [h1, digs_zero, if_pos rfl, Nat.mod_eq_of_lt (by omega)]; rfl
  ·rw [if_neg (digs_ne (by omega) h1), ih _ (by omega) h1]
   obtain ⟨h2, h3⟩ := padk_eq 8 (n % 1000000000) (Nat.mod_lt _ (by omega))
   have h4 := dec_pad 9 (n / 1000000000) (n % 1000000000) (by omega) (Nat.mod_lt _ (by omega))
   rw [show n / 1000000000 * 10 ^ 9 + n % 1000000000 = n by omega] at h4
   rw [h4, h3]
theorem repeatL_len (k : Nat) : (repeatL [48] k).length = k := by
 rw [repeatL_length]; simp
theorem outC_len (l : List Nat) (h : ∀ c ∈ l, c < 1000000000) : (outC l).length ≤ 9 * l.length := by
 induction l with
 | nil => simp [outC]
 | cons c l ih =>
  have h1 := ih fun d hd => h d (List.mem_cons_of_mem _ hd)
  have h2 := (padk_eq 8 c (h c (List.mem_cons_self ..))).1
  rw [outC]
  simp only [List.length_append, List.length_cons]
  split
  ·omega
  ·simp only [List.length_append, repeatL_len]; omega
/-- what Format answers -/
def fmtZ (z : Int) : List UInt8 := if z < 0 then 45 :: decDigits z.natAbs else decDigits z.natAbs
end Go.Proofs.YtfdmlfpldgobjaaGreatDoor.Big
/- Plain facts on limbs for the reference's loops: sums, differences, halves, products with a small number, bit by bit division. Conditions: none. -/
namespace Go.Proofs.YtfdmlfpldgobjaaGreatDoor.Big
/-- the limb at i, 0 beyond the end -/
def lb (xs : List Nat) (i : Nat) : Nat := xs[i]?.getD 0
theorem lb_at {xs : List Nat} {i : Nat} (h : i < xs.length) : lb xs i = xs[i] := by simp [lb, List.getElem?_eq_getElem h]
theorem lb_out {xs : List Nat} {i : Nat} (h : xs.length ≤ i) : lb xs i = 0 := by simp [lb, List.getElem?_eq_none h]
theorem lb_lt {xs : List Nat} (h : Ok xs) (i : Nat) : lb xs i < 4294967296 := by
 rcases Nat.lt_or_ge i xs.length with h1 | h1
 ·rw [lb_at h1]; exact h.get h1
 ·rw [lb_out h1]; decide
theorem val_drop (xs : List Nat) (k : Nat) : val (xs.drop k) = lb xs k + 4294967296 * val (xs.drop (k + 1)) := by
 rcases Nat.lt_or_ge k xs.length with h | h
 ·rw [List.drop_eq_getElem_cons h, lb_at h]; rfl
 ·rw [List.drop_of_length_le h, List.drop_of_length_le (by omega), lb_out h]; rfl
theorem val_snoc (D : List Nat) (x : Nat) : val (D ++ [x]) = val D + 4294967296 ^ D.length * x := by rw [val_append]; simp [val]
theorem ok_snoc {D : List Nat} {x : Nat} (h : Ok D) (hx : x < 4294967296) : Ok (D ++ [x]) := h.app (Ok.nil.cons hx)
theorem val_out (xs : List Nat) {k : Nat} (h : xs.length ≤ k) : val (xs.drop k) = 0 := by rw [List.drop_of_length_le h]; rfl
/-- a loop with a carry: the limbs D so far, the carry q, the rest R (to be shifted by k limbs), the whole T -/
structure Cry (T k q R : Nat) (D : List Nat) : Prop where
 len : D.length = k
 ok : Ok D
 eq : val D + 4294967296 ^ k * (q + R) = T
theorem Cry.start (q R : Nat) : Cry (q + R) 0 q R [] := ⟨rfl, Ok.nil, by simp [val]⟩
theorem Cry.step {T k q R t R' s : Nat} {D : List Nat} (h : Cry T k q R D) (hR : R = t + 4294967296 * R') (hs : s = t + q) : Cry T (k + 1) (s / 4294967296) R' (D ++ [s % 4294967296]) := by
 refine ⟨by simp [h.len], ok_snoc h.ok (Nat.mod_lt _ (by decide)), ?_⟩
 rw [val_snoc, h.len, ← h.eq, hR, Nat.pow_succ]
 have e : s % 4294967296 + 4294967296 * (s / 4294967296) = s := Nat.mod_add_div s 4294967296
 generalize s / 4294967296 = u at *
 generalize s % 4294967296 = v at *
 generalize 4294967296 ^ k = P
 have e2 : q + (t + 4294967296 * R') = v + 4294967296 * (u + R') := by omega
 rw [e2, Nat.mul_add P v, Nat.mul_assoc]
 omega
theorem Cry.last {T k q : Nat} {D : List Nat} (h : Cry T k q 0 D) : val (D ++ [q]) = T := by
 rw [val_snoc, h.len, ← h.eq]; simp
/-- a loop with a borrow -/
structure Brw (xs ys : List Nat) (k q : Nat) (D : List Nat) : Prop where
 len : D.length = k
 ok : Ok D
 q1 : q ≤ 1
 eq : val D + val ys + 4294967296 ^ k * val (xs.drop k) = val xs + 4294967296 ^ k * (q + val (ys.drop k))
theorem Brw.start (xs ys : List Nat) : Brw xs ys 0 0 [] := ⟨rfl, Ok.nil, by decide, by simp [val]; omega⟩
theorem Brw.step {xs ys D : List Nat} {k q s : Nat} (h : Brw xs ys k q D) (hs : s + lb ys k + q = 4294967296 + lb xs k) (hx : lb xs k < 4294967296) : Brw xs ys (k + 1) (1 - s / 4294967296) (D ++ [s % 4294967296]) := by
 refine ⟨by simp [h.len], ok_snoc h.ok (Nat.mod_lt _ (by decide)), by omega, ?_⟩
 have h1 := h.eq
 rw [val_drop xs k, val_drop ys k] at h1
 rw [val_snoc, h.len, Nat.pow_succ]
 have e1 : s % 4294967296 + q + lb ys k = lb xs k + 4294967296 * (1 - s / 4294967296) := by omega
 generalize 1 - s / 4294967296 = q' at *
 generalize s % 4294967296 = v at *
 generalize val (xs.drop (k + 1)) = X' at *
 generalize val (ys.drop (k + 1)) = Y' at *
 generalize lb xs k = x at *
 generalize lb ys k = y at *
 generalize 4294967296 ^ k = P at *
 have e2 : P * (v + q + y) = P * (x + 4294967296 * q') := by rw [e1]
 simp only [Nat.mul_add, Nat.mul_assoc] at *
 omega
theorem Brw.last {xs ys D : List Nat} {k q : Nat} (h : Brw xs ys k q D) (hk : xs.length ≤ k) (hy : ys.length ≤ k) (hle : val ys ≤ val xs) : val D = val xs - val ys := by
 have h1 := h.eq
 have h2 := val_lt_pow h.ok
 have h3 := h.q1
 rw [h.len] at h2
 rw [val_out xs hk, val_out ys hy] at h1
 rcases Nat.le_one_iff_eq_zero_or_eq_one.1 h3 with rfl | rfl <;> simp at h1 <;> omega
/-- a loop that halves -/
structure Hlf (xs : List Nat) (k : Nat) (D : List Nat) : Prop where
 len : D.length = k
 ok : Ok D
 eq : 2 * val D + lb xs 0 % 2 + 4294967296 ^ k * val (xs.drop k) = val xs + 4294967296 ^ k * (lb xs k % 2)
theorem Hlf.start (xs : List Nat) : Hlf xs 0 [] := ⟨rfl, Ok.nil, by simp [val]; omega⟩
theorem Hlf.step {xs D : List Nat} {k : Nat} (h : Hlf xs k D) (hx : lb xs k < 4294967296) : Hlf xs (k + 1) (D ++ [lb xs k / 2 + lb xs (k + 1) % 2 * 2147483648]) := by
 have hb : lb xs k / 2 + lb xs (k + 1) % 2 * 2147483648 < 4294967296 := by omega
 refine ⟨by simp [h.len], ok_snoc h.ok hb, ?_⟩
 have h1 := h.eq
 rw [val_drop xs k] at h1
 rw [val_snoc, h.len, Nat.pow_succ]
 have e1 : 2 * (lb xs k / 2 + lb xs (k + 1) % 2 * 2147483648) + lb xs k % 2 = lb xs k + 4294967296 * (lb xs (k + 1) % 2) := by omega
 generalize lb xs k / 2 + lb xs (k + 1) % 2 * 2147483648 = v at *
 generalize lb xs (k + 1) % 2 = g at *
 generalize lb xs k % 2 = f at *
 generalize lb xs k = x at *
 generalize val (xs.drop (k + 1)) = X' at *
 generalize 4294967296 ^ k = P at *
 have e2 : P * (2 * v + f) = P * (x + 4294967296 * g) := by rw [e1]
 simp only [Nat.mul_add, Nat.mul_assoc] at *
 have e3 : P * (2 * v) = 2 * (P * v) := by rw [← Nat.mul_assoc, Nat.mul_comm P 2, Nat.mul_assoc]
 omega
theorem Hlf.last {xs D : List Nat} {k : Nat} (h : Hlf xs k D) (hk : xs.length ≤ k) : val D = val xs / 2 := by
 have h1 := h.eq
 rw [val_out xs hk, lb_out hk] at h1
 simp at h1
 omega
theorem lb_zero_mod (xs : List Nat) : lb xs 0 % 2 = val xs % 2 := by
 have := val_drop xs 0
 rw [List.drop_zero] at this
 omega
/-! ### bits -/
theorem val_split (xs : List Nat) (k : Nat) (hk : k ≤ xs.length) : val xs = val (xs.take k) + 4294967296 ^ k * val (xs.drop k) := by
 have := val_append (xs.take k) (xs.drop k)
 rw [List.take_append_drop, List.length_take, Nat.min_eq_left hk] at this
 exact this
/-- long division bit by bit: j bits of a are still to come -/
structure Lng (xs : List Nat) (m j r : Nat) (L : List Nat) : Prop where
 len : L.length = xs.length
 ok : Ok L
 rem : r = val xs / 2 ^ j % m
 quo : val L = val xs / 2 ^ j / m * 2 ^ j
theorem Lng.start {xs : List Nat} (ho : Ok xs) (m : Nat) : Lng xs m (32 * xs.length) 0 (List.replicate xs.length 0) := by
 have h := val_lt_pow ho
 rw [show (4294967296 : Nat) = 2 ^ 32 by decide, ← Nat.pow_mul] at h
 refine ⟨by simp, Ok.rep _, ?_, ?_⟩
 ·rw [Nat.div_eq_of_lt h]; simp
 ·rw [Nat.div_eq_of_lt h, val_rep]; simp
theorem half_step (a j : Nat) : a / 2 ^ j = 2 * (a / 2 ^ (j + 1)) + a / 2 ^ j % 2 := by
 rw [Nat.pow_succ, ← Nat.div_div_eq_div_mul]; omega
theorem Lng.no {xs L : List Nat} {m j r : Nat} (h : Lng xs m (j + 1) r L) (hlt : 2 * r + val xs / 2 ^ j % 2 < m) : Lng xs m j (2 * r + val xs / 2 ^ j % 2) L := by
 have e := half_step (val xs) j
 have hr := h.rem
 have hq := h.quo
 rw [Nat.pow_succ] at hq
 rw [Nat.pow_succ] at hr
 rw [Nat.pow_succ] at e
 generalize val xs / (2 ^ j * 2) = A at *
 generalize val xs / 2 ^ j % 2 = b at *
 have hm : 0 < m := by omega
 have e2 : 2 * A + b = (2 * r + b) + m * (2 * (A / m)) := by
  have := Nat.mod_add_div A m
  rw [Nat.mul_left_comm]; omega
 refine ⟨h.len, h.ok, ?_, ?_⟩
 ·rw [e, e2, Nat.add_mul_mod_self_left, Nat.mod_eq_of_lt hlt]
 ·rw [e, e2, Nat.add_mul_div_left _ _ hm, Nat.div_eq_of_lt hlt, hq, Nat.zero_add, Nat.mul_comm 2 (A / m), Nat.mul_assoc, Nat.mul_comm 2]
theorem Lng.last {xs L : List Nat} {m r : Nat} (h : Lng xs m 0 r L) : r = val xs % m ∧ val L = val xs / m := by
 have h1 := h.rem
 have h2 := h.quo
 simp at h1 h2
 exact ⟨h1, h2⟩
/-! ### the greatest common divisor by halving and subtracting -/
theorem gcd_left {a b : Nat} (hb : b % 2 = 1) : Nat.gcd (2 * a) b = Nat.gcd a b := by
 apply Nat.Coprime.gcd_mul_left_cancel
 have h := Nat.gcd_rec 2 b
 rw [hb] at h
 unfold Nat.Coprime
 rw [h]; rfl
theorem gcd_right {a b : Nat} (ha : a % 2 = 1) : Nat.gcd a (2 * b) = Nat.gcd a b := by
 rw [Nat.gcd_comm, gcd_left ha, Nat.gcd_comm]
theorem gcd_sub1 {a b : Nat} (h : b ≤ a) : Nat.gcd (a - b) b = Nat.gcd a b := Nat.gcd_sub_self_left h
theorem gcd_sub2 {a b : Nat} (h : a ≤ b) : Nat.gcd a (b - a) = Nat.gcd a b := Nat.gcd_sub_self_right h
end Go.Proofs.YtfdmlfpldgobjaaGreatDoor.Big
