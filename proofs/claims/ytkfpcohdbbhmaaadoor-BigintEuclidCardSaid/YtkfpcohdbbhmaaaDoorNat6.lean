/- Natural numbers as lists of limbs: normalizing, the loop of long division. Conditions: none. -/
import Derived.Test.YtkfpcohdbbhmaaaDoorNat5
import Derived.Lib.BitFns
namespace Go.Proofs.YtkfpcohdbbhmaaaDoor.Big
set_option linter.unusedVariables false
set_option linter.unusedSimpArgs false

theorem bitLen_bd : ∀ x : Nat, x ≠ 0 → x < 2 ^ 64 → 2 ^ (Lib.bitLen x - 1) ≤ x ∧ x < 2 ^ Lib.bitLen x ∧ 1 ≤ Lib.bitLen x := by
  intro x
  induction x using Nat.strongRecOn with
  | _ x ih =>
    intro h0 hx
    have e := Lib.bitLen_half x h0 hx
    by_cases h1 : x / 2 = 0
    · have : x = 1 := by omega
      subst this
      decide
    · obtain ⟨i1, i2, i3⟩ := ih (x / 2) (by omega) h1 (by omega)
      rw [e]
      clear e
      generalize Lib.bitLen (x / 2) = L at *
      obtain ⟨k, rfl⟩ : ∃ k, L = k + 1 := ⟨L - 1, by omega⟩
      simp only [Nat.add_sub_cancel] at *
      rw [show 1 + (k + 1) - 1 = k + 1 by omega, show 1 + (k + 1) = k + 2 by omega]
      rw [Nat.pow_succ] at i2
      rw [Nat.pow_succ, Nat.pow_succ, Nat.pow_succ]
      omega

theorem norm_shift {t : Nat} (h0 : t ≠ 0) (ht : t < 4294967296) : Lib.bitLen t ≤ 32 ∧ 2147483648 ≤ t * 2 ^ (32 - Lib.bitLen t) ∧ t * 2 ^ (32 - Lib.bitLen t) < 4294967296 ∧ 1 ≤ Lib.bitLen t := by
  have hle : Lib.bitLen t ≤ 32 := Lib.bitLen_le t 32 (by omega) (by omega)
  obtain ⟨b1, b2, b3⟩ := bitLen_bd t h0 (by omega)
  refine ⟨hle, ?_, ?_, b3⟩
  · have h := Nat.mul_le_mul_right (2 ^ (32 - Lib.bitLen t)) b1
    rw [← Nat.pow_add, show Lib.bitLen t - 1 + (32 - Lib.bitLen t) = 31 by omega] at h
    simpa using h
  · have h := Nat.mul_lt_mul_of_pos_right b2 (show 0 < 2 ^ (32 - Lib.bitLen t) from Nat.pow_pos (by omega))
    rw [← Nat.pow_add, show Lib.bitLen t + (32 - Lib.bitLen t) = 32 by omega] at h
    simpa using h

/-- a shift that does not overflow the last limb -/
theorem shl_last {m : Nat} : ∀ (bs : List Nat) (c t : Nat), bs.getLast? = some t → t * m < 4294967296 → ∃ vs : List Nat, shl m bs c = vs ++ [0] ∧ vs.length = bs.length ∧ t * m ≤ vs.getD (bs.length - 1) 0 := by
  intro bs
  induction bs with
  | nil => intro c t h; simp at h
  | cons x r ih =>
    intro c t hlast hm
    cases r with
    | nil =>
      simp at hlast
      subst hlast
      refine ⟨[x * m % 4294967296 + c], ?_, rfl, ?_⟩
      · simp [shl, Nat.div_eq_of_lt hm]
      · simp [Nat.mod_eq_of_lt hm]
    | cons y s =>
      rw [List.getLast?_cons_cons] at hlast
      obtain ⟨vs, h1, h2, h3⟩ := ih (x * m / 4294967296) t hlast hm
      refine ⟨(x * m % 4294967296 + c) :: vs, by rw [shl, h1]; rfl, by simp [h2], ?_⟩
      simpa using h3

theorem nrm_last {l : List Nat} (h : Nrm l) (hl : l ≠ []) : ∃ t, l.getLast? = some t ∧ t ≠ 0 := by
  obtain ⟨t, ht⟩ : ∃ t, l.getLast? = some t := by
    cases e : l.getLast? with
    | none => exact absurd (List.getLast?_eq_none_iff.1 e) hl
    | some t => exact ⟨t, rfl⟩
  exact ⟨t, ht, fun h0 => h (by rw [ht, h0])⟩

theorem val_ge_pow {b : List Nat} (nb : Nrm b) (hb : b ≠ []) : 4294967296 ^ (b.length - 1) ≤ val b := by
  obtain ⟨l, x, rfl⟩ : ∃ l x, b = l ++ [x] := ⟨b.dropLast, b.getLast hb, (List.dropLast_concat_getLast hb).symm⟩
  have hx : x ≠ 0 := by intro h0; subst h0; simp [Nrm] at nb
  rw [val_append]
  simp only [val, List.length_append, List.length_singleton, Nat.add_sub_cancel]
  have h3 : 4294967296 ^ l.length * 1 ≤ 4294967296 ^ l.length * (x + 4294967296 * 0) := Nat.mul_le_mul_left _ (by omega)
  omega

/-- what the loop of divide holds: us the shifted dividend, V the divisor's value, n its length -/
structure LongAt (us : List Nat) (V n m k : Nat) (U qs : List Nat) : Prop where
  ex : ∃ rem qq : List Nat, U = us.take k ++ rem ++ List.replicate (m - k) 0 ∧ rem.length = n ∧ Ok rem ∧ val rem < V ∧ qs = List.replicate k 0 ++ qq ∧ qq.length = m - k ∧ Ok qq ∧ val (us.drop k) = val qq * V + val rem

theorem LongAt.start {us : List Nat} {V n m : Nat} (ho : Ok us) (hl : us.length = m + n) (hv : val (us.drop m) < V) : LongAt us V n m m us (List.replicate m 0) :=
  ⟨us.drop m, [], by simp, by simp; omega, ho.drop _, hv, by simp, by simp, .nil, by simp [val]⟩

theorem LongAt.window {us U qs : List Nat} {V n m k : Nat} (h : LongAt us V n m k U qs) (ho : Ok us) (hk : 0 < k) (hkl : k ≤ us.length) (hkm : k ≤ m) (hn : 0 < n) :
    ∃ low t Q, U = us.take (k - 1) ++ low ++ [t] ++ Q ∧ low.length = n ∧ Ok low ∧ t < 4294967296 ∧ val (low ++ [t]) < V * 4294967296 ∧
      ∀ rem', rem'.length = n → Ok rem' → val rem' = val (low ++ [t]) % V → 0 < V → LongAt us V n m (k - 1) (us.take (k - 1) ++ rem' ++ [0] ++ Q) (qs.set (k - 1) (val (low ++ [t]) / V)) := by
  obtain ⟨rem, qq, h1, h2, h3, h4, h5, h6, h7, h8⟩ := h.ex
  have hk1 : k - 1 < us.length := by omega
  have ht : us.take k = us.take (k - 1) ++ [us[k - 1]] := by
    have : k = (k - 1) + 1 := by omega
    conv => lhs; rw [this]
    rw [List.take_succ_eq_append_getElem hk1]
  have hd : us.drop (k - 1) = us[k - 1] :: us.drop k := by rw [List.drop_eq_getElem_cons hk1, show k - 1 + 1 = k by omega]
  have hx := ho.get hk1
  have hw : us[k - 1] :: rem ≠ [] := by simp
  have hsplit : us[k - 1] :: rem = (us[k - 1] :: rem).dropLast ++ [(us[k - 1] :: rem).getLast hw] := (List.dropLast_concat_getLast hw).symm
  have hok : Ok (us[k - 1] :: rem) := Ok.cons hx h3
  have hval : val ((us[k - 1] :: rem).dropLast ++ [(us[k - 1] :: rem).getLast hw]) = us[k - 1] + 4294967296 * val rem := by rw [← hsplit]; rfl
  refine ⟨(us[k - 1] :: rem).dropLast, (us[k - 1] :: rem).getLast hw, List.replicate (m - k) 0, ?_, by simp [h2], ?_, hok _ (List.getLast_mem hw), ?_, ?_⟩
  · have e : ∀ a b c R : List Nat, a ++ b ++ c ++ R = a ++ (b ++ c) ++ R := fun a b c R => by simp
    rw [e, ← hsplit, h1, ht]; simp only [List.append_assoc, List.cons_append, List.nil_append]
  · rw [hsplit] at hok; exact hok.left
  · rw [hval]; omega
  · intro rem' r1 r2 r3 hV
    rw [hval] at r3 ⊢
    have hq : (us[k - 1] + 4294967296 * val rem) / V < 4294967296 := by
      rw [Nat.div_lt_iff_lt_mul hV, Nat.mul_comm 4294967296 V]
      omega
    have hdm := Nat.div_add_mod (us[k - 1] + 4294967296 * val rem) V
    refine ⟨rem', (us[k - 1] + 4294967296 * val rem) / V :: qq, ?_, r1, r2, ?_, ?_, ?_, Ok.cons hq h7, ?_⟩
    · rw [show m - (k - 1) = (m - k) + 1 by omega, List.replicate_succ]; simp
    · rw [r3]; exact Nat.mod_lt _ hV
    · rw [h5, show List.replicate k 0 = List.replicate (k - 1) 0 ++ [0] by
          obtain ⟨j, rfl⟩ : ∃ j, k = j + 1 := ⟨k - 1, by omega⟩
          simp [List.replicate_succ'], List.append_assoc, List.set_append_right _ _ (by simp)]
      simp
    · simp [h6]; omega
    · rw [hd, val, h8, r3, val, Nat.add_mul, Nat.mul_add, ← Nat.mul_assoc 4294967296]
      rw [Nat.mul_comm V] at hdm
      omega

end Go.Proofs.YtkfpcohdbbhmaaaDoor.Big
