/- Natural numbers as lists of limbs: plain facts. Conditions: none. -/
import Derived.Test.YtkfpcohdbbhmaaaDoorNat1
namespace Go.Proofs.YtkfpcohdbbhmaaaDoor.Big
set_option linter.unusedVariables false
set_option linter.unusedSimpArgs false

/-! multiplication -/
def mulRow (x : Nat) : List Nat → List Nat → Nat → List Nat
  | [], _, c => [c]
  | y :: b, [], c => ((x * y + c) % 4294967296) :: mulRow x b [] ((x * y + c) / 4294967296)
  | y :: b, p :: acc, c => ((x * y + p + c) % 4294967296) :: mulRow x b acc ((x * y + p + c) / 4294967296)

theorem val_mulRow (x : Nat) (b acc : List Nat) (c : Nat) (h : acc.length ≤ b.length) : val (mulRow x b acc c) = x * val b + val acc + c := by
  induction b generalizing acc c with
  | nil => cases acc with
    | nil => simp [mulRow, val]
    | cons p acc => simp at h
  | cons y b ih =>
    cases acc with
    | nil =>
      have e : x * (y + 4294967296 * val b) = x * y + 4294967296 * (x * val b) := by rw [Nat.mul_add, Nat.mul_left_comm]
      simp only [mulRow, val, e]
      rw [ih _ _ (by simp)]; simp only [val]; omega
    | cons p acc =>
      have e : x * (y + 4294967296 * val b) = x * y + 4294967296 * (x * val b) := by rw [Nat.mul_add, Nat.mul_left_comm]
      simp only [mulRow, val, e]
      rw [ih _ _ (by simpa using h)]; omega

theorem length_mulRow (x : Nat) (b acc : List Nat) (c : Nat) : (mulRow x b acc c).length = b.length + 1 := by
  induction b generalizing acc c with
  | nil => simp [mulRow]
  | cons y b ih => cases acc <;> simp [mulRow, ih]

theorem mul_bound {x y p c : Nat} (hx : x < 4294967296) (hy : y < 4294967296) (hp : p < 4294967296) (hc : c < 4294967296) : x * y + p + c < 18446744073709551616 := by
  have h1 : x * y ≤ 4294967295 * 4294967295 := Nat.mul_le_mul (by omega) (by omega)
  omega

theorem ok_mulRow (x : Nat) (b acc : List Nat) (c : Nat) (hx : x < 4294967296) (hb : Ok b) (ha : Ok acc) (hc : c < 4294967296) : Ok (mulRow x b acc c) := by
  induction b generalizing acc c with
  | nil => simp [mulRow, Ok]; omega
  | cons y b ih =>
    have hy := hb.head
    cases acc with
    | nil =>
      have := mul_bound hx hy (p := 0) (by omega) hc
      rw [mulRow]; exact Ok.cons (Nat.mod_lt _ (by omega)) (ih _ _ hb.tail .nil (by omega))
    | cons p acc =>
      have := mul_bound hx hy ha.head hc
      rw [mulRow]; exact Ok.cons (Nat.mod_lt _ (by omega)) (ih _ _ hb.tail ha.tail (by omega))

def mulL : List Nat → List Nat → List Nat → List Nat
  | [], _, acc => acc
  | x :: a, b, acc => (mulRow x b acc 0).headD 0 :: mulL a b (mulRow x b acc 0).tail

theorem val_mulL (a b acc : List Nat) (h : acc.length = b.length) : val (mulL a b acc) = val a * val b + val acc := by
  induction a generalizing acc with
  | nil => simp [mulL, val]
  | cons x a ih =>
    have hv := val_mulRow x b acc 0 (by omega)
    have hl := length_mulRow x b acc 0
    simp only [mulL]
    cases hm : mulRow x b acc 0 with
    | nil => rw [hm] at hl; simp at hl
    | cons r row =>
      rw [hm] at hv hl
      simp only [List.headD_cons, List.tail_cons, val] at *
      rw [ih row (by simpa using hl), Nat.add_mul, Nat.mul_assoc]
      omega

theorem length_mulL (a b acc : List Nat) (h : acc.length = b.length) : (mulL a b acc).length = a.length + b.length := by
  induction a generalizing acc with
  | nil => simp [mulL, h]
  | cons x a ih =>
    simp only [mulL, List.length_cons]
    rw [ih _ (by simp [length_mulRow])]; omega

theorem ok_mulL (a b acc : List Nat) (ha : Ok a) (hb : Ok b) (hc : Ok acc) : Ok (mulL a b acc) := by
  induction a generalizing acc with
  | nil => exact hc
  | cons x a ih =>
    have hr := ok_mulRow x b acc 0 ha.head hb hc (by omega)
    rw [mulL]
    refine Ok.cons ?_ (ih _ ha.tail ?_)
    · cases hm : mulRow x b acc 0 with
      | nil => simp
      | cons r row => rw [hm] at hr; exact hr.head
    · cases hm : mulRow x b acc 0 with
      | nil => exact .nil
      | cons r row => rw [hm] at hr; exact hr.tail

/-! scale -/
def scaleL (by' : Nat) : List Nat → Nat → List Nat
  | [], c => [c]
  | x :: a, c => ((x * by' + c) % 4294967296) :: scaleL by' a ((x * by' + c) / 4294967296)

theorem val_scaleL (m : Nat) (a : List Nat) (c : Nat) : val (scaleL m a c) = val a * m + c := by
  induction a generalizing c with
  | nil => simp [scaleL, val]
  | cons x a ih => simp only [scaleL, val, ih, Nat.add_mul, Nat.mul_assoc]; omega

theorem length_scaleL (m : Nat) (a : List Nat) (c : Nat) : (scaleL m a c).length = a.length + 1 := by
  induction a generalizing c with
  | nil => rfl
  | cons x a ih => simp [scaleL, ih]

theorem ok_scaleL (m : Nat) (a : List Nat) (c : Nat) (hm : m < 4294967296) (ha : Ok a) (hc : c < 4294967296) : Ok (scaleL m a c) := by
  induction a generalizing c with
  | nil => simp [scaleL, Ok]; omega
  | cons x a ih =>
    have := mul_bound ha.head hm (p := 0) (by omega) hc
    rw [scaleL]; exact Ok.cons (Nat.mod_lt _ (by omega)) (ih _ ha.tail (by omega))

/-! short division -/
def divS (d : Nat) : List Nat → List Nat × Nat
  | [] => ([], 0)
  | x :: a => (((divS d a).2 * 4294967296 + x) / d :: (divS d a).1, ((divS d a).2 * 4294967296 + x) % d)

theorem divS_spec (d : Nat) (hd : 0 < d) (a : List Nat) : val (divS d a).1 * d + (divS d a).2 = val a ∧ (divS d a).2 < d := by
  induction a with
  | nil => simp [divS, val, hd]
  | cons x a ih =>
    obtain ⟨h1, h2⟩ := ih
    simp only [divS, val]
    generalize (divS d a).2 = r at *
    generalize val (divS d a).1 = q at *
    refine ⟨?_, Nat.mod_lt _ hd⟩
    have := Nat.div_add_mod' (r * 4294967296 + x) d
    rw [Nat.add_mul, Nat.mul_assoc]
    omega

theorem length_divS (d : Nat) (a : List Nat) : (divS d a).1.length = a.length := by
  induction a with
  | nil => rfl
  | cons x a ih => simp [divS, ih]

theorem ok_divS (d : Nat) (hd : 0 < d) (a : List Nat) (ha : Ok a) : Ok (divS d a).1 := by
  induction a with
  | nil => exact .nil
  | cons x a ih =>
    have := (divS_spec d hd a).2
    have hx := ha.head
    simp only [divS]
    refine Ok.cons ?_ (ih ha.tail)
    rw [Nat.div_lt_iff_lt_mul hd]
    have : (divS d a).2 + 1 ≤ d := this
    have h3 := Nat.mul_le_mul_right 4294967296 this
    rw [Nat.add_mul] at h3
    rw [Nat.mul_comm 4294967296 d]
    omega

theorem divS_eq (d : Nat) (hd : 0 < d) (a : List Nat) : val (divS d a).1 = val a / d ∧ (divS d a).2 = val a % d := by
  obtain ⟨h1, h2⟩ := divS_spec d hd a
  rw [← h1]
  constructor
  · rw [Nat.mul_comm, Nat.mul_add_div hd, Nat.div_eq_of_lt h2]; simp
  · rw [Nat.mul_comm, Nat.mul_add_mod, Nat.mod_eq_of_lt h2]

/-! comparing -/
def ord (a b : Nat) : Int := if a < b then -1 else if b < a then 1 else 0

theorem val_lt_pow {a : List Nat} (h : Ok a) : val a < 4294967296 ^ a.length := by
  induction a with
  | nil => simp [val]
  | cons x a ih =>
    have := ih h.tail
    have hx := h.head
    simp only [val, List.length_cons, Nat.pow_succ]
    omega

theorem val_drop_lt {a b : List Nat} (ha : Ok a) (i : Nat) (hl : a.length = b.length) (hi : i < a.length) (hd : a.drop (i + 1) = b.drop (i + 1)) (hlt : a[i] < b[i]'(by omega)) : val a < val b := by
  have e1 : a = a.take i ++ a[i] :: a.drop (i + 1) := by simp
  have e2 : b = b.take i ++ b[i]'(by omega) :: b.drop (i + 1) := by simp
  rw [e1, e2, val_append, val_append, val, val, hd]
  have h1 := val_lt_pow (ha.take i)
  simp only [List.length_take] at h1 ⊢
  rw [show min i a.length = i by omega] at *
  rw [show min i b.length = i by omega]
  have : a[i] + 4294967296 * val (List.drop (i + 1) b) + 1 ≤ b[i]'(by omega) + 4294967296 * val (List.drop (i + 1) b) := by omega
  have h3 := Nat.mul_le_mul_left (4294967296 ^ i) this
  rw [Nat.mul_add _ _ 1] at h3
  omega

theorem val_len_lt {a b : List Nat} (ha : Ok a) (hb : Nrm b) (h : a.length < b.length) : val a < val b := by
  have h1 := val_lt_pow ha
  have hne : b ≠ [] := by intro h0; subst h0; simp at h
  obtain ⟨l, x, rfl⟩ : ∃ l x, b = l ++ [x] := ⟨b.dropLast, b.getLast hne, (List.dropLast_concat_getLast hne).symm⟩
  have hx : x ≠ 0 := by intro h0; subst h0; simp [Nrm] at hb
  rw [val_append]
  simp only [val, List.length_append, List.length_singleton] at *
  have h2 : 4294967296 ^ a.length ≤ 4294967296 ^ l.length := Nat.pow_le_pow_right (by omega) (by omega)
  have h3 : 4294967296 ^ l.length * 1 ≤ 4294967296 ^ l.length * (x + 4294967296 * 0) := Nat.mul_le_mul_left _ (by omega)
  omega

/-! shifts -/
def shl (m : Nat) : List Nat → Nat → List Nat
  | [], c => [c]
  | x :: a, c => ((x * m) % 4294967296 + c) :: shl m a (x * m / 4294967296)

theorem val_shl (m : Nat) (a : List Nat) (c : Nat) : val (shl m a c) = val a * m + c := by
  induction a generalizing c with
  | nil => simp [shl, val]
  | cons x a ih => simp only [shl, val, ih, Nat.add_mul, Nat.mul_assoc]; omega

theorem length_shl (m : Nat) (a : List Nat) (c : Nat) : (shl m a c).length = a.length + 1 := by
  induction a generalizing c with
  | nil => rfl
  | cons x a ih => simp [shl, ih]

end Go.Proofs.YtkfpcohdbbhmaaaDoor.Big
