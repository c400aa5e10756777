/- Reading order: the columns that the reference lets grow, in plain lists. Conditions: valid boxes. -/
import Derived.Test.YtjdgjhaggpahkaaZNr5
set_option linter.unusedVariables false
set_option linter.unusedSimpArgs false
namespace Go.Proofs.Ytjdgjhaggpahkaa
theorem nd_len {T : List Nat} {n : Nat} (hd : T.Nodup) (hl : ∀ i ∈ T, i < n) : T.length ≤ n := by
 have hp : T.Perm ((List.range n).filter fun i => T.contains i) := (List.perm_ext_iff_of_nodup hd (List.nodup_range.sublist List.filter_sublist)).2 fun a => by
  rw [List.mem_filter, List.mem_range]
  exact ⟨fun h => ⟨hl a h, by simpa using h⟩, fun h => by simpa using h.2⟩
 rw [hp.length_eq]
 exact Nat.le_trans (List.length_filter_le _ _) (by simp)
/-- the columns so far, T taken -/
structure RefI (l : List Bx) (gap : Int) (n : Nat) (T : List Nat) (Ls : List (List Nat)) : Prop where
 nd : T.Nodup
 lt : ∀ i ∈ T, i < n
 pm : Ls.flatten.Perm T
 ne : ∀ C ∈ Ls, C ≠ []
 cn : ∀ C ∈ Ls, Conn l gap C
 srt : ∀ C ∈ Ls, C.Pairwise fun a b => abvB l b a = false
 sep : Ls.Pairwise fun C D => ∀ x ∈ C, ∀ y ∈ D, bR l x + gap ≤ bX l y
 out : ∀ C ∈ Ls, ∀ x ∈ C, ∀ y, y < n → y ∉ T → bR l x + gap ≤ bX l y
theorem RefI.nil (l : List Bx) (gap : Int) (n : Nat) : RefI l gap n [] [] :=
 ⟨List.nodup_nil, fun i h => (by cases h), List.Perm.refl _, fun C h => (by cases h), fun C h => (by cases h), fun C h => (by cases h), List.Pairwise.nil, fun C h => (by cases h)⟩
theorem RefI.len {l : List Bx} {gap : Int} {n : Nat} {T : List Nat} {Ls : List (List Nat)} (h : RefI l gap n T Ls) : T.length ≤ n := by
 exact nd_len h.nd h.lt
/-- a column under way, begun at k0 -/
structure ColI (l : List Bx) (gap : Int) (n : Nat) (T C : List Nat) (k0 : Nat) : Prop where
 nd : (T ++ C).Nodup
 lt : ∀ i ∈ T ++ C, i < n
 cn : Conn l gap C
 k0 : k0 ∈ C
theorem ColI.start {l : List Bx} {gap : Int} {n : Nat} {T : List Nat} {k0 : Nat} (hn : T.Nodup) (hl : ∀ i ∈ T, i < n) (hk : k0 ∉ T) (hkn : k0 < n) : ColI l gap n T [k0] k0 := by
 refine ⟨?_, fun i hi => ?_, Conn.single l gap k0, by simp⟩
 ·rw [List.nodup_append]
  exact ⟨hn, by simp, fun a ha b hb e => by rw [List.mem_singleton.1 hb] at e; exact hk (e ▸ ha)⟩
 ·rcases List.mem_append.1 hi with h | h
  ·exact hl i h
  ·rw [List.mem_singleton.1 h]; exact hkn
theorem ColI.grow {l : List Bx} {gap : Int} {n : Nat} {T C : List Nat} {k0 c k : Nat} (h : ColI l gap n T C k0) (hc : c ∈ C) (hk : k ∉ T ++ C) (hkn : k < n) (hn : nearB l gap c k = true) : ColI l gap n T (C ++ [k]) k0 := by
 refine ⟨?_, fun i hi => ?_, h.cn.grow hc hn, by simp [h.k0]⟩
 ·rw [← List.append_assoc, List.nodup_append]
  exact ⟨h.nd, by simp, fun a ha b hb e => by rw [List.mem_singleton.1 hb] at e; exact hk (e ▸ ha)⟩
 ·rw [← List.append_assoc] at hi
  rcases List.mem_append.1 hi with q | q
  ·exact h.lt i q
  ·rw [List.mem_singleton.1 q]; exact hkn
theorem ColI.len {l : List Bx} {gap : Int} {n : Nat} {T C : List Nat} {k0 : Nat} (h : ColI l gap n T C k0) : T.length + C.length ≤ n := by
 have := nd_len h.nd h.lt
 simpa using this
/-- nothing left is near the first m of C -/
def ClsI (l : List Bx) (gap : Int) (n : Nat) (T C : List Nat) (m : Nat) : Prop := ∀ a c, C[a]? = some c → a < m → ∀ y, y < n → y ∉ T ++ C → nearB l gap c y = false
/-- .. nor near c, up to k -/
def ClsK (l : List Bx) (gap : Int) (T C : List Nat) (c k : Nat) : Prop := ∀ y, y < k → y ∉ T ++ C → nearB l gap c y = false
theorem ClsI.grow {l : List Bx} {gap : Int} {n : Nat} {T C : List Nat} {m k : Nat} (h : ClsI l gap n T C m) (hm : m ≤ C.length) : ClsI l gap n T (C ++ [k]) m := fun a c hc ha y hy hn => by
 rw [List.getElem?_append_left (by omega)] at hc
 exact h a c hc ha y hy (fun e => hn (by rw [← List.append_assoc]; exact List.mem_append_left _ e))
theorem ClsK.grow {l : List Bx} {gap : Int} {T C : List Nat} {c k j : Nat} (h : ClsK l gap T C c k) : ClsK l gap T (C ++ [j]) c k := fun y hy hn => h y hy (fun e => hn (by rw [← List.append_assoc]; exact List.mem_append_left _ e))
theorem ClsK.step {l : List Bx} {gap : Int} {T C : List Nat} {c k : Nat} (h : ClsK l gap T C c k) (hk : k ∈ T ++ C ∨ nearB l gap c k = false) : ClsK l gap T C c (k + 1) := fun y hy hn => by
 rcases Nat.lt_or_ge y k with q | q
 ·exact h y q hn
 ·obtain rfl : y = k := by omega
  rcases hk with q | q
  ·exact absurd q hn
  ·exact q
theorem ClsI.step {l : List Bx} {gap : Int} {n : Nat} {T C : List Nat} {m c : Nat} (h : ClsI l gap n T C m) (hc : C[m]? = some c) (hk : ClsK l gap T C c n) : ClsI l gap n T C (m + 1) := fun a d hd ha y hy hn => by
 rcases Nat.lt_or_ge a m with q | q
 ·exact h a d hd q y hy hn
 ·obtain rfl : a = m := by omega
  rw [hc] at hd
  cases hd
  exact hk y hy hn
theorem col_sep {l : List Bx} {gap : Int} {n : Nat} {T C : List Nat} {k0 : Nat} (h : ColI l gap n T C k0) (hcl : ClsI l gap n T C C.length) (hmin : ∀ j, j < n → j ∉ T → bX l k0 ≤ bX l j) : ∀ c ∈ C, ∀ y, y < n → y ∉ T ++ C → bR l c + gap ≤ bX l y := by
 have hno : ∀ c ∈ C, ∀ y, y < n → y ∉ T ++ C → nearB l gap c y = false := fun c hc y hy hn => by
  obtain ⟨a, ha, e⟩ := List.getElem_of_mem hc
  exact hcl a c (by rw [List.getElem?_eq_getElem ha, e]) ha y hy hn
 intro c hc y hy hn
 have hT : y ∉ T := fun e => hn (List.mem_append_left _ e)
 have key : bX l c ≤ bX l y := by
  by_cases hlt : bX l c ≤ bX l y
  ·exact hlt
  ·exfalso
   obtain ⟨a, ha, b, hb, p1, p2, hnr⟩ := h.cn (fun i => decide (bX l i ≤ bX l y)) ⟨k0, h.k0, decide_eq_true (hmin y hy hT)⟩ ⟨c, hc, decide_eq_false hlt⟩
   have q1 : bX l a ≤ bX l y := of_decide_eq_true p1
   have q2 : ¬ bX l b ≤ bX l y := of_decide_eq_false p2
   have q3 := hno a ha y hy hn
   unfold nearB at q3 hnr
   rw [if_neg (by omega)] at q3
   have q4 := of_decide_eq_false q3
   rw [if_neg (show ¬ bX l b < bX l a by omega), if_pos (show bX l a < bX l b by omega)] at hnr
   have q5 : bX l b < bR l a + gap := by rcases hnr with e | e <;> exact of_decide_eq_true e
   omega
 have q3 := hno c hc y hy hn
 unfold nearB at q3
 rw [if_neg (by omega)] at q3
 have := of_decide_eq_false q3
 omega
theorem RefI.add {l : List Bx} {gap : Int} {T C : List Nat} {Ls : List (List Nat)} {k0 : Nat} (h : RefI l gap l.length T Ls) (hc : ColI l gap l.length T C k0) (hcl : ClsI l gap l.length T C C.length) (hmin : ∀ j, j < l.length → j ∉ T → bX l k0 ≤ bX l j) : RefI l gap l.length (T ++ C) (Ls ++ [insAll l C]) := by
 have hs := col_sep hc hcl hmin
 have hmem : ∀ x, x ∈ insAll l C ↔ x ∈ C := fun x => (insAll_perm l C).mem_iff
 refine ⟨hc.nd, hc.lt, ?_, fun D hD => ?_, fun D hD => ?_, fun D hD => ?_, ?_, fun D hD x hx y hy hn => ?_⟩
 ·rw [List.flatten_append]
  refine List.Perm.append h.pm ?_
  simp only [List.flatten_cons, List.flatten_nil, List.append_nil]
  exact insAll_perm l C
 ·rcases List.mem_append.1 hD with q | q
  ·exact h.ne D q
  ·rw [List.mem_singleton.1 q]
   intro e
   have := (hmem k0).2 hc.k0
   rw [e] at this; cases this
 ·rcases List.mem_append.1 hD with q | q
  ·exact h.cn D q
  ·rw [List.mem_singleton.1 q]; exact hc.cn.congr hmem
 ·rcases List.mem_append.1 hD with q | q
  ·exact h.srt D q
  ·rw [List.mem_singleton.1 q]; exact insAll_sorted l C
 ·rw [List.pairwise_append]
  refine ⟨h.sep, List.pairwise_singleton _ _, fun D hD E hE x hx y hy => ?_⟩
  rw [List.mem_singleton.1 hE, hmem] at hy
  have hyl := hc.lt y (List.mem_append_right _ hy)
  exact h.out D hD x hx y hyl (fun e => (List.nodup_append.1 hc.nd).2.2 y e y hy rfl)
 ·rcases List.mem_append.1 hD with q | q
  ·exact h.out D q x hx y hy (fun e => hn (List.mem_append_left _ e))
  ·rw [List.mem_singleton.1 q, hmem] at hx
   exact hs x hx y hy hn
theorem RefI.done {l : List Bx} {gap : Int} {T : List Nat} {Ls : List (List Nat)} (h : RefI l gap l.length T Ls) (ha : ∀ j, j < l.length → j ∈ T) : Split l gap (List.range l.length) Ls :=
 ⟨h.ne, h.cn, h.srt, h.sep, h.pm.trans ((List.perm_ext_iff_of_nodup h.nd List.nodup_range).2 fun a => ⟨fun q => List.mem_range.2 (h.lt a q), fun q => ha a (List.mem_range.1 q)⟩)⟩
end Go.Proofs.Ytjdgjhaggpahkaa
