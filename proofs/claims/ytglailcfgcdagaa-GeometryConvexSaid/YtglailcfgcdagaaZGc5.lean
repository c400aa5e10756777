/- Geometry: the facts of the law Convex. Conditions: none. -/
import Derived.Test.YtglailcfgcdagaaZGi2
import Derived.Test.YtglailcfgcdagaaZGB
set_option linter.unusedVariables false
set_option linter.unusedSimpArgs false
namespace Go.Proofs.Ytglailcfgcdagaa
open Go.RowKit Big
/-- the points in another order -/
def othP (l : List (Int × Int)) (k : Nat) : List (Int × Int) := (List.range l.length).map fun i => l.getD ((k + l.length - i) % l.length) (0, 0)
theorem oth_len (l : List (Int × Int)) (k : Nat) : (othP l k).length = l.length := by unfold othP; simp
theorem oth_at {l : List (Int × Int)} {k i j : Nat} (hi : i < l.length) (hj : (k + l.length - i) % l.length = j) (h2 : j < l.length) : (othP l k)[i]'(by rw [oth_len]; exact hi) = l[j] := by
 unfold othP
 simp [hj, h2]
theorem oth_mem (l : List (Int × Int)) (k : Nat) (hk : k < l.length) (s : Int × Int) : s ∈ l ↔ s ∈ othP l k := by
 constructor
 ·intro h
  obtain ⟨j, hj, rfl⟩ := List.getElem_of_mem h
  have hi : (k + l.length - j) % l.length < l.length := Nat.mod_lt _ (by omega)
  have he : (k + l.length - (k + l.length - j) % l.length) % l.length = j := by
   rcases Nat.lt_or_ge (k + l.length - j) l.length with h1 | h1
   ·rw [Nat.mod_eq_of_lt h1, show k + l.length - (k + l.length - j) = j by omega, Nat.mod_eq_of_lt hj]
   ·have h2 : (k + l.length - j) % l.length = k - j := by
     rw [Nat.mod_eq_sub_mod h1, Nat.mod_eq_of_lt (by omega)]; omega
    rw [h2, show k + l.length - (k - j) = j + l.length by omega, Nat.add_mod_right, Nat.mod_eq_of_lt hj]
  rw [← oth_at hi he hj]
  exact List.getElem_mem _
 ·intro h
  obtain ⟨i, hi, rfl⟩ := List.getElem_of_mem h
  rw [oth_len] at hi
  rw [oth_at hi rfl (Nat.mod_lt _ (by omega))]
  exact List.getElem_mem _
theorem chk_all {l : List (Int × Int)} (h1 : l.length ≤ 4096) (h2 : ∀ p ∈ l, inP p = true) : chkP l = 0 := by
 unfold chkP
 rw [if_neg (by omega), if_pos (List.all_eq_true.2 h2)]
/-- what the law says of a hull -/
structure CvxF (l H : List (Int × Int)) : Prop where
 len : 0 < H.length ∧ H.length ≤ l.length
 own : hullE H = (H, 0)
 oth : ∀ k, k < l.length → hullE (othP l k) = (H, 0)
 mem : ∀ s ∈ H, s ∈ l
 inp : ∀ s ∈ H, inP s = true
 turn : ∀ a (h : a < H.length), ∃ c : Int, crsE H[a] (H[(a + 1) % H.length]'(Nat.mod_lt _ (by omega))) (H[(a + 2) % H.length]'(Nat.mod_lt _ (by omega))) = (c, 0) ∧ (2 < H.length → 0 < c)
 ins : 2 < H.length → ∀ p ∈ l, insE H p = (true, 0)
theorem ins_hull {l H : List (Int × Int)} (hl : ∀ p ∈ l, inP p = true) (hll : l.length ≤ 4096) (hh : HullOf l H) (h2 : 2 < H.length) (hown : hullP H = H) {p : Int × Int} (hp : p ∈ l) : insE H p = (true, 0) := by
 have hi : ∀ s ∈ H, inP s = true := fun s h => hl s (hh.mem s h)
 have hlen := hh.len
 have c1 : chkP H = 0 := chk_all (by omega) hi
 have c2 : chkP [p] = 0 := chk_all (by simp) (fun s h => by rw [List.mem_singleton.1 h]; exact hl p hp)
 have c3 : hullP H = rotP H := by
  rw [hown]
  unfold rotP fstH
  rw [hown]
  obtain ⟨f, h', e, _⟩ := hh.ex
  rw [e]
  simp
 unfold insE
 rw [if_pos c1, if_pos c2, if_neg (by omega), if_pos c3]
 have : insB H p = true := by
  unfold insB
  rw [List.all_eq_true]
  intro j hj
  have hj := List.mem_range.1 hj
  have hk : (j + 1) % H.length < H.length := Nat.mod_lt _ (by omega)
  have := hh.side hj hp
  unfold sideI
  simp only [List.getD, List.getElem?_eq_getElem hj, List.getElem?_eq_getElem hk, Option.getD_some]
  exact decide_eq_true this
 rw [this]
theorem cvx_facts {l : List (Int × Int)} (hc : chkP l = 0) (h0 : l ≠ []) : CvxF l (hullP l) := by
 obtain ⟨hll, hl⟩ := chkP_zero hc
 have hne := hullP_ne h0
 have hpos := List.length_pos_iff.2 hne
 have hsub := hullP_sub h0
 have hle := hullP_len h0
 have hown := hullP_own h0
 have hi : ∀ s ∈ hullP l, inP s = true := fun s h => hl s (hsub s h)
 refine ⟨⟨hpos, hle⟩, ?_, fun k hk => ?_, hsub, hi, ?_, ?_⟩
 ·rw [hullE_1 (chk_all (by omega) hi) hne, hown]
 ·have hm := oth_mem l k hk
  have hn0 : othP l k ≠ [] := fun e => by
   have := oth_len l k
   rw [e] at this; simp at this; omega
  rw [hullE_1 (chk_all (by rw [oth_len]; exact hll) (fun s hs => hl s ((hm s).2 hs))) hn0, hullP_mem h0 hm]
 ·intro a ha
  have k1 : (a + 1) % (hullP l).length < (hullP l).length := Nat.mod_lt _ (by omega)
  have k2 : (a + 2) % (hullP l).length < (hullP l).length := Nat.mod_lt _ (by omega)
  have c0 : chkP [(hullP l)[a], (hullP l)[(a + 1) % (hullP l).length], (hullP l)[(a + 2) % (hullP l).length]] = 0 := chk_all (by simp) (fun s hs => by
   simp only [List.mem_cons, List.not_mem_nil, or_false] at hs
   rcases hs with rfl | rfl | rfl <;> exact hi _ (List.getElem_mem _))
  refine ⟨_, by unfold crsE; rw [if_pos c0], fun h2 => ?_⟩
  rcases hullP_cases h0 with ⟨p, _, e⟩ | hh
  ·rw [e] at h2; simp at h2
  ·exact hh.turn h2 ha
 ·intro h2 p hp
  rcases hullP_cases h0 with ⟨q, _, e⟩ | hh
  ·rw [e] at h2; simp at h2
  ·exact ins_hull hl hll hh h2 hown hp
end Go.Proofs.Ytglailcfgcdagaa
