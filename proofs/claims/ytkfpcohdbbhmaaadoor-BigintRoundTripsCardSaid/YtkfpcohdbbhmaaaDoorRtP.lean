/- Plain facts on texts and digits: they restore the number. Conditions: none. -/
import Derived.Test.YtkfpcohdbbhmaaaDoorBi26
import Derived.Test.YtkfpcohdbbhmaaaDoorBi25
import Derived.Test.YtkfpcohdbbhmaaaDoorNat8
namespace Go.Proofs.YtkfpcohdbbhmaaaDoor
set_option linter.unusedVariables false
set_option linter.unusedSimpArgs false
open Go.RowKit Big Go.Lib

theorem ch_val {d : Nat} (h : d < 10) : (ch d).toNat = 48 + d := by
  unfold ch
  rw [UInt8.toNat_ofNat']
  omega
theorem ch_digit {d : Nat} (h : d < 10) : digit (ch d) := by unfold digit; rw [ch_val h]; omega
theorem dvals_ch : ∀ l : List Nat, (∀ d ∈ l, d < 10) → dvals (l.map ch) = l
  | [], _ => rfl
  | d :: r, h => by
    have h1 := dvals_ch r (fun d hd => h d (by simp [hd]))
    unfold dvals at h1 ⊢
    simp only [List.map_cons]
    rw [h1, ch_val (h d (by simp))]
    congr 1
    omega
theorem digs_head {b n : Nat} (hb : 2 ≤ b) (h : n ≠ 0) : ∃ d r, (digs b n).reverse = d :: r ∧ d ≠ 0 ∧ d < b := by
  have h1 := digs_ne hb h
  have h2 := digs_last hb n h
  cases hr : (digs b n).reverse with
  | nil => exact absurd (List.reverse_eq_nil_iff.1 hr) h1
  | cons d r =>
    refine ⟨d, r, rfl, fun hd => h2 ?_, digs_lt hb n d ?_⟩
    · rw [← List.head?_reverse, hr, hd]; rfl
    · rw [← List.mem_reverse, hr]; simp
theorem parD_digs (neg : Bool) (n : Nat) (h : n ≠ 0) (hl : (decDigits n).length ≤ 4096) : parD neg (decDigits n) = (sg neg n, 0) := by
  rw [dec_digs n h] at hl ⊢
  obtain ⟨d, r, hr, hd, hd2⟩ := digs_head (b := 10) (by omega) h
  have hall : ∀ d ∈ (digs 10 n).reverse, d < 10 := fun d hd => digs_lt (by omega) n d (List.mem_reverse.1 hd)
  unfold parD
  rw [if_neg (by omega), if_neg, if_pos, dvals_ch _ hall, ofd_digs (by omega)]
  · intro x hx
    obtain ⟨d, hd, rfl⟩ := List.mem_map.1 hx
    exact ch_digit (hall d hd)
  · rw [hr]
    rintro (h1 | ⟨h1, _⟩)
    · simp at h1
    · simp only [List.map_cons, List.head?_cons, Option.some.injEq] at h1
      have := congrArg UInt8.toNat h1
      rw [ch_val hd2] at this
      have e : (48 : UInt8).toNat = 48 := rfl
      omega
theorem dec_first (n : Nat) : ∃ c r, decDigits n = c :: r ∧ c ≠ 45 := by
  by_cases h : n = 0
  · subst h
    exact ⟨48, [], by rw [decDigits]; rfl, by decide⟩
  · obtain ⟨d, r, hr, hd, hd2⟩ := digs_head (b := 10) (by omega) h
    rw [dec_digs n h, hr]
    refine ⟨ch d, r.map ch, rfl, fun h1 => ?_⟩
    have := congrArg UInt8.toNat h1
    rw [ch_val hd2] at this
    have e : (45 : UInt8).toNat = 45 := rfl
    omega
theorem fmtZ_ne (x : Int) : fmtZ x ≠ [] := by
  obtain ⟨c, r, h, _⟩ := dec_first x.natAbs
  unfold fmtZ
  split
  · simp
  · rw [h]; simp
theorem parE_fmtZ (x : Int) (h : (fmtZ x).length ≤ 4096) : parE (fmtZ x) = (x, 0) := by
  unfold fmtZ at h ⊢
  split
  · rename_i hx
    rw [if_pos hx] at h
    have e1 : hasPrefix (45 :: decDigits x.natAbs) [45] = true := by simp [hasPrefix]
    unfold parE
    have e2 : trimPrefix (45 :: decDigits x.natAbs) [45] = decDigits x.natAbs := by simp [trimPrefix, e1]
    rw [e1, e2, parD_digs true x.natAbs (by omega) (by simp at h; omega)]
    simp only [Prod.mk.injEq, and_true]
    unfold sg
    simp
    omega
  · rename_i hx
    rw [if_neg hx] at h
    obtain ⟨c, r, hc, hne⟩ := dec_first x.natAbs
    have e1 : hasPrefix (decDigits x.natAbs) [45] = false := by
      rw [hc]
      simp only [hasPrefix, List.isPrefixOf, Bool.and_true]
      rw [beq_eq_false_iff_ne]
      exact fun h => hne h.symm
    unfold parE
    have e2 : trimPrefix (decDigits x.natAbs) [45] = decDigits x.natAbs := by simp [trimPrefix, e1]
    rw [e1, e2]
    by_cases h0 : x.natAbs = 0
    · have : x = 0 := by omega
      subst this
      decide +kernel
    · rw [parD_digs false x.natAbs h0 h]
      simp only [Prod.mk.injEq, and_true]
      unfold sg
      simp
      omega

def ints (l : List Nat) : List Int := l.map fun (n : Nat) => (n : Int)
theorem nats_ints (l : List Nat) : nats (ints l) = l := by
  unfold nats ints
  rw [List.map_map]
  conv => rhs; rw [← List.map_id l]
  exact List.map_congr_left fun n _ => by simp
theorem dg_back (n b : Nat) (h2 : 2 ≤ b) (f : fits n) {l : List Nat} (h : dgE b n = (l, 0)) : fdE b (ints l) = ((n : Int), 0) ∧ ∃ d r, l = d :: r ∧ (d ≠ 0 ∨ r = []) ∧ d < b := by
  unfold dgE at h
  split at h
  · rename_i h0
    subst h0
    obtain rfl : l = [0] := by simpa using h.symm
    refine ⟨?_, 0, [], rfl, .inr rfl, by omega⟩
    have ho : okD b [0] := by
      intro d hd
      simp at hd
      omega
    have hf : fits 0 := by simp [fits, limbs_zero]
    simp [fdE, ints, nats, ofd, ho, fitE, hf]
  · rename_i h0
    split at h
    · rename_i hl
      obtain rfl : (digs b n).reverse = l := by simpa using h
      obtain ⟨d, r, hr, hd, hd2⟩ := digs_head h2 h0
      refine ⟨?_, d, r, hr, .inl hd, hd2⟩
      have ho : okD b (ints (digs b n).reverse) := by
        intro d hd
        obtain ⟨k, hk, rfl⟩ := List.mem_map.1 hd
        have := digs_lt h2 n k (List.mem_reverse.1 hk)
        omega
      unfold fdE
      rw [if_neg (by simp [ints]; omega), if_pos ho, nats_ints, ofd_digs h2, fitE_yes f]
    · simp at h
theorem dgE_err (b n : Nat) : (dgE b n).2 = 0 ∨ (dgE b n).2 = 4 := by
  unfold dgE
  split
  · exact .inl rfl
  · split
    · exact .inl rfl
    · exact .inr rfl
end Go.Proofs.YtkfpcohdbbhmaaaDoor
