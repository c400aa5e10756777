/- Reading order: paragraphs in plain lists: each index once, more than the gap between them; the largest edge. Conditions: valid boxes. -/
import Derived.Test.YtjdgjhaggpahkaaZRx5
set_option linter.unusedVariables false
set_option linter.unusedSimpArgs false
namespace Go.Proofs.Ytjdgjhaggpahkaa
def bY (l : List Bx) (i : Nat) : Int := (l.getD i default).y
def bB (l : List Bx) (i : Nat) : Int := (l.getD i default).y + (l.getD i default).h
structure ParI (l : List Bx) (gap : Int) (D : List Nat) (s : ParS) : Prop where
 fl : s.L.flatten = D
 ne : ∀ C ∈ s.L, C ≠ []
 sep : s.L.Pairwise fun C D => ∀ x ∈ C, ∀ y ∈ D, bB l x + gap < bY l y
 low : ∀ i ∈ D, bB l i ≤ s.low
theorem parI_step {l : List Bx} {gap : Int} {D : List Nat} {s : ParS} {i : Nat} (h : ParI l gap D s) (hg : 0 ≤ gap) (hh : bY l i < bB l i) (hs : ∀ x ∈ D, bY l x ≤ bY l i) : ParI l gap (D ++ [i]) (parStep l gap s i) := by
 unfold parStep
 by_cases c : s.L.length = 0 ∨ s.low + gap < (l.getD i default).y
 ·rw [if_pos c]
  have hD : ∀ x ∈ D, bB l x + gap < bY l i := fun x hx => by
   rcases c with c | c
   ·have := List.eq_nil_of_length_eq_zero c
    rw [← h.fl, this] at hx
    cases hx
   ·have := h.low x hx
    unfold bY
    omega
  refine ⟨by rw [List.flatten_append, h.fl]; simp, fun C hC => ?_, ?_, fun x hx => ?_⟩
  ·rcases List.mem_append.1 hC with q | q
   ·exact h.ne C q
   ·rw [List.mem_singleton.1 q]; simp
  ·rw [List.pairwise_append]
   refine ⟨h.sep, List.pairwise_singleton _ _, fun C hC E hE x hx y hy => ?_⟩
   rw [List.mem_singleton.1 hE] at hy
   rw [List.mem_singleton.1 hy]
   exact hD x (by rw [← h.fl]; exact List.mem_flatten.2 ⟨C, hC, hx⟩)
  ·show bB l x ≤ bB l i
   rcases List.mem_append.1 hx with q | q
   ·have := hD x q
    omega
   ·rw [List.mem_singleton.1 q]; exact Int.le_refl _
 ·rw [if_neg c]
  rcases List.eq_nil_or_concat s.L with e | ⟨Ls, C, e⟩
  ·rw [e] at c; exact absurd (.inl rfl) c
  ·obtain ⟨low, L⟩ := s
   dsimp only at e c h ⊢
   rw [List.concat_eq_append] at e
   subst e
   have h1 := h.fl
   have h2 := h.ne
   have h3 := h.sep
   have h4 := h.low
   dsimp only at h1 h2 h3 h4
   have e1 : (Ls ++ [C]).length - 1 = Ls.length := by simp
   have e2 : (Ls ++ [C]).getD Ls.length [] = C := by simp
   rw [e1, e2]
   have e3 : (Ls ++ [C]).set Ls.length (C ++ [i]) = Ls ++ [C ++ [i]] := by simp
   rw [e3]
   rw [List.pairwise_append] at h3
   refine ⟨?_, fun E hE => ?_, ?_, fun x hx => ?_⟩
   ·show (Ls ++ [C ++ [i]]).flatten = D ++ [i]
    rw [← h1]; simp
   ·rcases List.mem_append.1 hE with q | q
    ·exact h2 E (List.mem_append_left _ q)
    ·rw [List.mem_singleton.1 q]; simp
   ·show (Ls ++ [C ++ [i]]).Pairwise _
    rw [List.pairwise_append]
    refine ⟨h3.1, List.pairwise_singleton _ _, fun E hE F hF x hx y hy => ?_⟩
    rw [List.mem_singleton.1 hF] at hy
    rcases List.mem_append.1 hy with q | q
    ·exact h3.2.2 E hE C (by simp) x hx y q
    ·rw [List.mem_singleton.1 q]
     obtain ⟨z, hz⟩ := List.exists_mem_of_ne_nil C (h2 C (by simp))
     have q1 := h3.2.2 E hE C (by simp) x hx z hz
     have q2 := hs z (by rw [← h1]; exact List.mem_flatten.2 ⟨C, by simp, hz⟩)
     omega
   ·show bB l x ≤ max low (bB l i)
    rcases List.mem_append.1 hx with q | q
    ·have := h4 x q; omega
    ·rw [List.mem_singleton.1 q]; omega
theorem abv_y {l : List Bx} {i k : Nat} (h : abvB l k i = false) : bY l i ≤ bY l k := by
 unfold abvB at h
 unfold bY
 have := of_decide_eq_false h
 omega
theorem hb_of {l : List Bx} {gap : Int} (h : chkB l gap = 0) : 0 ≤ gap ∧ gap ≤ 4096 ∧ ∀ i, i < l.length → (-4096 ≤ bX l i ∧ bX l i < bR l i ∧ bR l i ≤ 8192) ∧ -4096 ≤ bY l i ∧ bY l i < bB l i ∧ bB l i ≤ 8192 := by
 obtain ⟨h1, h2, h3, h4⟩ := chk0 h
 refine ⟨h2, h3, fun i hi => ?_⟩
 have := okB_b (h4 (l.getD i default) (by simp [hi]))
 unfold bX bR bY bB
 omega
theorem parI_take {l : List Bx} {gap : Int} (h : chkB l gap = 0) : ∀ k, k ≤ (dwnB l).length → ParI l gap ((dwnB l).take k) (parS l gap ((dwnB l).take k))
 | 0, _ => ⟨rfl, fun C hC => by simp [parS] at hC, List.Pairwise.nil, fun i hi => by simp at hi⟩
 | k + 1, hk => by
  have ih := parI_take h k (by omega)
  obtain ⟨h1, h2, h3⟩ := hb_of h
  rw [List.take_succ_eq_append_getElem (by omega), parS_snoc]
  refine parI_step ih h1 (h3 _ (dwnB_lt.1 (List.getElem_mem _))).2.2.1 fun x hx => ?_
  obtain ⟨j, hj, e⟩ := List.mem_take_iff_getElem.1 hx
  rw [← e]
  exact abv_y (List.pairwise_iff_getElem.1 (dwnB_sorted l) j k (by omega) (by omega) (by omega))
/-- lists that hold each index once, R between an earlier one's and a later one's -/
structure SepG (n : Nat) (R : Nat → Nat → Prop) (Ls : List (List Nat)) : Prop where
 ne : ∀ C ∈ Ls, C ≠ []
 pm : Ls.flatten.Perm (List.range n)
 sep : Ls.Pairwise fun C D => ∀ x ∈ C, ∀ y ∈ D, R x y
theorem parE_sep {l : List Bx} {gap : Int} (h : chkB l gap = 0) : SepG l.length (fun x y => bB l x + gap < bY l y) (parE l gap).1 := by
 have hI := parI_take h _ (Nat.le_refl _)
 rw [List.take_length] at hI
 unfold parE
 rw [if_pos h]
 exact ⟨hI.ne, by rw [hI.fl]; exact dwnB_perm l, hI.sep⟩
theorem colC_sep {l : List Bx} {gap : Int} (h : chkB l gap = 0) : SepG l.length (fun x y => bR l x + gap ≤ bX l y) (colC l gap) := by
 obtain ⟨h1, h2⟩ := Classical.choose_spec (srt_some l)
 have hs := colG_split l gap h1 h2
 rw [colC_of h hs]
 exact ⟨hs.ne, hs.pm, hs.sep⟩
theorem SepG.nd {n : Nat} {R : Nat → Nat → Prop} {Ls : List (List Nat)} (h : SepG n R Ls) : Ls.flatten.Nodup := h.pm.nodup_iff.2 List.nodup_range
theorem SepG.len {n : Nat} {R : Nat → Nat → Prop} {Ls : List (List Nat)} (h : SepG n R Ls) : Ls.flatten.length = n := by rw [h.pm.length_eq]; simp
theorem SepG.lt {n : Nat} {R : Nat → Nat → Prop} {Ls : List (List Nat)} (h : SepG n R Ls) : ∀ i ∈ Ls.flatten, i < n := fun i hi => List.mem_range.1 (h.pm.mem_iff.1 hi)
/-- the largest edge -/
def mxF (q : Nat → Int) (T : List Nat) : Int := T.foldl (fun m i => max m (q i)) (-1099511627776)
theorem mxF_snoc (q : Nat → Int) (T : List Nat) (i : Nat) : mxF q (T ++ [i]) = max (mxF q T) (q i) := by unfold mxF; rw [List.foldl_append]; rfl
theorem mx_fold_le (q : Nat → Int) (B : Int) : ∀ (T : List Nat) (m : Int), m ≤ B → (∀ i ∈ T, q i ≤ B) → T.foldl (fun m i => max m (q i)) m ≤ B
 | [], m, h, _ => h
 | i :: T, m, h, h2 => mx_fold_le q B T _ (show max m (q i) ≤ B by have := h2 i (by simp); omega) fun j hj => h2 j (by simp [hj])
theorem mxF_le {q : Nat → Int} {T : List Nat} {B : Int} (h0 : -1099511627776 ≤ B) (h : ∀ i ∈ T, q i ≤ B) : mxF q T ≤ B := mx_fold_le q B T _ h0 h
/-- what the loops meet -/
structure Meet (n : Nat) (p q : Nat → Int) (Ls : List (List Nat)) (gap d : Int) : Prop where
 mem : ∀ i (h : i < Ls.length) j (h2 : j < Ls[i].length), Ls[i][j] < n
 gt : ∀ i (h : i < Ls.length) j (h2 : j < Ls[i].length), mxF q (Ls.take i).flatten + gap + d ≤ p Ls[i][j]
 hi : ∀ T : List Nat, (∀ i ∈ T, i < n) → mxF q T ≤ 8192
theorem SepG.meet {n : Nat} {p q : Nat → Int} {R : Nat → Nat → Prop} {Ls : List (List Nat)} {gap d : Int} (h : SepG n R Ls) (hg : 0 ≤ gap ∧ gap ≤ 4096 ∧ 0 ≤ d ∧ d ≤ 1) (hR : ∀ x y, R x y → q x + gap + d ≤ p y) (hp : ∀ i, i < n → -4096 ≤ p i) (hq : ∀ i, i < n → q i ≤ 8192) : Meet n p q Ls gap d := by
 have hm : ∀ i (h : i < Ls.length) j (h2 : j < Ls[i].length), Ls[i][j] < n := fun i h1 j h2 => h.lt _ (List.mem_flatten.2 ⟨Ls[i], List.getElem_mem h1, List.getElem_mem h2⟩)
 refine ⟨hm, fun i h1 j h2 => ?_, fun T hT => mxF_le (by omega) fun i hi => hq i (hT i hi)⟩
 have h3 := hp _ (hm i h1 j h2)
 have : mxF q (Ls.take i).flatten ≤ p Ls[i][j] - gap - d := mxF_le (by omega) fun x hx => by
  obtain ⟨C, hC, hxC⟩ := List.mem_flatten.1 hx
  obtain ⟨k, hk, e⟩ := List.mem_take_iff_getElem.1 hC
  have := hR _ _ (List.pairwise_iff_getElem.1 h.sep k i (by omega) h1 (by omega) x (by rw [e]; exact hxC) Ls[i][j] (List.getElem_mem h2))
  omega
 omega
end Go.Proofs.Ytjdgjhaggpahkaa
