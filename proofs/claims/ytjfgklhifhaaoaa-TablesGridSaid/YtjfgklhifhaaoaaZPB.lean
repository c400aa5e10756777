/- Tables in plain lists: equal neighbours become one, as slices.Compact does it. Conditions: none. -/
import Derived.Test.YtjfgklhifhaaoaaZPA
set_option linter.unusedVariables false
set_option linter.unusedSimpArgs false
namespace Go.Proofs.Ytjfgklhifhaaoaa
theorem dedP_cons (a : Int × Int) (l : List (Int × Int)) : ∃ r, dedP (a :: l) = a :: r := by
 cases l with
 | nil => exact ⟨[], rfl⟩
 | cons b m => exact ⟨_, by simp only [dedP]; rfl⟩
theorem dedP_two (x y : Int × Int) (m : List (Int × Int)) : dedP (x :: y :: m) = x :: (if x = y then (dedP (y :: m)).tail else dedP (y :: m)) := by simp only [dedP]
theorem dedP_snoc : ∀ (l : List (Int × Int)) (a b : Int × Int), dedP (l ++ [a] ++ [b]) = if a = b then dedP (l ++ [a]) else dedP (l ++ [a]) ++ [b]
 | [], a, b => by
  show dedP [a, b] = if a = b then dedP [a] else dedP [a] ++ [b]
  rw [dedP_two]
  by_cases h : a = b
  ·rw [if_pos h, if_pos h]; rfl
  ·rw [if_neg h, if_neg h]; rfl
 | x :: l, a, b => by
  have ih := dedP_snoc l a b
  obtain ⟨y, m, hm⟩ : ∃ y m, l ++ [a] = y :: m := by
   cases l with
   | nil => exact ⟨a, [], rfl⟩
   | cons y m => exact ⟨y, m ++ [a], rfl⟩
  rw [show x :: l ++ [a] ++ [b] = x :: (l ++ [a] ++ [b]) by simp, show x :: l ++ [a] = x :: (l ++ [a]) by simp]
  rw [hm] at ih ⊢
  obtain ⟨r, hr⟩ := dedP_cons y m
  rw [show y :: m ++ [b] = y :: (m ++ [b]) by simp] at ih ⊢
  rw [dedP_two, dedP_two, ih]
  by_cases h : a = b
  ·rw [if_pos h, if_pos h]
  ·rw [if_neg h, if_neg h, hr]
   by_cases h2 : x = y
   ·rw [if_pos h2, if_pos h2]; rfl
   ·rw [if_neg h2, if_neg h2]; rfl
theorem dedP_le : ∀ l : List (Int × Int), (dedP l).length ≤ l.length
 | [] => Nat.le_refl _
 | [a] => Nat.le_refl _
 | a :: b :: r => by
  have ih := dedP_le (b :: r)
  rw [dedP_two]
  split
  ·simp at ih ⊢; omega
  ·simp at ih ⊢; omega
theorem dedP_take {L : List (Int × Int)} {i : Nat} (h : i + 1 < L.length) : dedP (L.take (i + 2)) = if L[i] = L[i + 1] then dedP (L.take (i + 1)) else dedP (L.take (i + 1)) ++ [L[i + 1]] := by
 rw [List.take_succ_eq_append_getElem h, List.take_succ_eq_append_getElem (show i < L.length by omega)]
 exact dedP_snoc _ _ _
theorem dedP_first {L : List (Int × Int)} (h : 0 < L.length) : dedP (L.take 1) = [L[0]] := by
 rw [List.take_succ_eq_append_getElem h]; rfl
/-- the first k elements have no equal neighbours -/
def Dif (L : List (Int × Int)) (k : Nat) : Prop := ∀ i (h : i + 1 < L.length), i + 1 < k → L[i] ≠ L[i + 1]
theorem Dif.one (L : List (Int × Int)) : Dif L 1 := fun i _ h => by omega
theorem Dif.next {L : List (Int × Int)} {k : Nat} (h : Dif L k) (hk : 1 ≤ k) (hl : k < L.length) (hn : L[k] ≠ L[k - 1]) : Dif L (k + 1) := fun i h1 h2 => by
 by_cases e : i + 1 = k
 ·subst e
  exact fun e => hn e.symm
 ·exact h i h1 (by omega)
theorem Dif.ded {L : List (Int × Int)} : ∀ {k : Nat}, Dif L k → k ≤ L.length → dedP (L.take k) = L.take k
 | 0, _, _ => rfl
 | 1, _, hk => by rw [dedP_first (by omega), List.take_succ_eq_append_getElem (by omega)]; rfl
 | k + 2, h, hk => by
  have ih := Dif.ded (L := L) (k := k + 1) (fun i h1 h2 => h i h1 (by omega)) (by omega)
  rw [dedP_take (by omega), if_neg (h k (by omega) (by omega)), ih, List.take_succ_eq_append_getElem (show k + 1 < L.length by omega)]
/-- what the inner loop of Compact keeps: p elements are looked at, k are kept in D -/
structure CpI (L : List (Int × Int)) (p k : Nat) (D : List (Int × Int)) : Prop where
 kp : k + 1 ≤ p
 pn : p ≤ L.length
 len : D.length = L.length
 ded : D.take k = dedP (L.take p)
 rest : ∀ i (h : i < D.length) (h' : i < L.length), k ≤ i → D[i] = L[i]
theorem CpI.start {L : List (Int × Int)} {k : Nat} (h : Dif L k) (h1 : 1 ≤ k) (hk : k < L.length) (he : L[k] = L[k - 1]) : CpI L (k + 1) k L := by
 refine ⟨Nat.le_refl _, hk, rfl, ?_, fun _ _ _ _ => rfl⟩
 obtain ⟨j, rfl⟩ : ∃ j, k = j + 1 := ⟨k - 1, by omega⟩
 rw [show j + 1 + 1 = j + 2 from rfl, dedP_take (by omega), if_pos (by simpa using he.symm), h.ded (by omega)]
theorem CpI.skip {L D : List (Int × Int)} {p k : Nat} (h : CpI L p k D) (hp : p < L.length) (he : L[p] = L[p - 1]) : CpI L (p + 1) k D := by
 have h0 := h.kp
 obtain ⟨j, rfl⟩ : ∃ j, p = j + 1 := ⟨p - 1, by omega⟩
 exact ⟨by omega, hp, h.len, by rw [show j + 1 + 1 = j + 2 from rfl, dedP_take (by omega), if_pos (by simpa using he.symm)]; exact h.ded, h.rest⟩
theorem CpI.put {L D : List (Int × Int)} {p k : Nat} (h : CpI L p k D) (hp : p < L.length) (he : L[p] ≠ L[p - 1]) : CpI L (p + 1) (k + 1) (D.set k L[p]) := by
 have h0 := h.kp
 have hl := h.len
 obtain ⟨j, rfl⟩ : ∃ j, p = j + 1 := ⟨p - 1, by omega⟩
 refine ⟨by omega, hp, by rw [List.length_set, hl], ?_, fun i h1 h2 h3 => ?_⟩
 ·rw [show j + 1 + 1 = j + 2 from rfl, dedP_take (by omega), if_neg (fun e => he (by simpa using e.symm)), ← h.ded]
  rw [List.take_succ_eq_append_getElem (by rw [List.length_set]; omega), List.getElem_set_self, List.take_set_of_le (Nat.le_refl _)]
 ·rw [List.getElem_set_ne (by omega)]
  exact h.rest i (by rw [List.length_set] at h1; exact h1) h2 (by omega)
theorem CpI.at_ {L D : List (Int × Int)} {p k i : Nat} (h : CpI L p k D) (hi : i < L.length) (hk : k ≤ i) : ∃ h' : i < D.length, D[i] = L[i] := ⟨by rw [h.len]; exact hi, h.rest i (by rw [h.len]; exact hi) hi hk⟩
theorem CpI.done {L D : List (Int × Int)} {k : Nat} (h : CpI L L.length k D) : D.take k = dedP L ∧ k = (dedP L).length := by
 have e := h.ded
 rw [List.take_length] at e
 have h0 := h.kp
 have h1 := h.len
 refine ⟨e, ?_⟩
 rw [← e, List.length_take]
 omega
end Go.Proofs.Ytjfgklhifhaaoaa
/- Tables in plain lists: sorted bands; orders. Conditions: none. -/
namespace Go.Proofs.Ytjfgklhifhaaoaa
theorem cmpP_lt {a b : Int × Int} : cmpP a b < 0 ↔ a.1 < b.1 ∨ a.1 = b.1 ∧ a.2 < b.2 := by
 unfold cmpP
 split
 ·simp [*]
 ·split
  ·simp; omega
  ·split
   ·simp; omega
   ·split <;> simp <;> omega
theorem bnd_sort {l S : List (Int × Int)} (hp : S.Perm l) (hs : S.Pairwise fun a b => ¬ cmpP b a < 0) : S = l.mergeSort fun x y => !decide (cmpP y x < 0) := by
 refine List.Perm.eq_of_pairwise (le := fun x y => (!decide (cmpP y x < 0)) = true) ?_ ?_ ?_ (hp.trans (List.mergeSort_perm _ _).symm)
 ·intro a b _ _ h1 h2
  simp only [Bool.not_eq_true', decide_eq_false_iff_not, cmpP_lt] at h1 h2
  exact Prod.ext (by omega) (by omega)
 ·exact hs.imp fun h => by simpa using h
 ·refine List.pairwise_mergeSort (fun a b c h1 h2 => ?_) (fun a b => ?_) l
  ·simp only [Bool.not_eq_true', decide_eq_false_iff_not, cmpP_lt] at *
   omega
  ·simp only [Bool.or_eq_true, Bool.not_eq_true', decide_eq_false_iff_not, cmpP_lt]
   omega
theorem bndL_succ {l : List Ru} {v : Bool} {i : Nat} (h : i < l.length) : bndL (l.take (i + 1)) v = bndL (l.take i) v ++ (if l[i].v = v then [(l[i].a, l[i].t)] else []) := by
 unfold bndL
 rw [List.take_succ_eq_append_getElem h, List.filter_append, List.map_append]
 congr 1
 by_cases e : l[i].v = v <;> simp [e]
theorem bndL_len (l : List Ru) (v : Bool) : (bndL l v).length ≤ l.length := by
 unfold bndL
 rw [List.length_map]
 exact List.length_filter_le _ _
theorem bndE_len (l : List Ru) (v : Bool) : (bndE l v).length ≤ l.length := by
 unfold bndE
 exact Nat.le_trans (dedP_le _) (by rw [List.length_mergeSort]; exact bndL_len l v)
theorem dedP_mem : ∀ {l : List (Int × Int)} {x : Int × Int}, x ∈ dedP l ↔ x ∈ l
 | [], x => by simp [dedP]
 | [a], x => by simp [dedP]
 | a :: b :: r, x => by
  have ih := dedP_mem (l := b :: r) (x := x)
  rw [dedP_two]
  obtain ⟨s, hs⟩ := dedP_cons b r
  rw [hs] at ih ⊢
  by_cases e : a = b
  ·rw [if_pos e, List.tail_cons, List.mem_cons, List.mem_cons (a := x) (b := a), ← ih, List.mem_cons, e]
   simp
  ·rw [if_neg e, List.mem_cons, ih, List.mem_cons (a := x) (b := a)]
theorem bndE_mem {l : List Ru} {v : Bool} {x : Int × Int} : x ∈ bndE l v ↔ ∃ r ∈ l, r.v = v ∧ x = (r.a, r.t) := by
 unfold bndE
 rw [dedP_mem, (List.mergeSort_perm _ _).mem_iff]
 unfold bndL
 rw [List.mem_map]
 constructor
 ·rintro ⟨r, hr, rfl⟩
  obtain ⟨h1, h2⟩ := List.mem_filter.1 hr
  exact ⟨r, h1, by simpa using h2, rfl⟩
 ·rintro ⟨r, h1, h2, rfl⟩
  exact ⟨r, List.mem_filter.2 ⟨h1, by simpa using h2⟩, rfl⟩
/-! neighbours apart -/
def AptI (l : List (Int × Int)) (k : Nat) : Prop := ∀ i (h : i + 1 < l.length), i + 1 < k → l[i].1 + l[i].2 < l[i + 1].1
theorem aptL_iff : ∀ {l : List (Int × Int)}, aptL l = true ↔ AptI l l.length
 | [] => by simp [aptL, AptI]
 | [a] => by simp [aptL, AptI]
 | a :: b :: r => by
  rw [aptL, Bool.and_eq_true, decide_eq_true_eq, aptL_iff (l := b :: r)]
  constructor
  ·rintro ⟨h1, h2⟩ i hi _
   match i, hi with
   | 0, _ => exact h1
   | i + 1, hi => exact h2 i (by simpa using hi) (by simpa using hi)
  ·intro h
   exact ⟨h 0 (by simp) (by simp), fun i hi hi2 => h (i + 1) (by simp at hi ⊢; omega) (by simp at hi ⊢; omega)⟩
theorem aptL_no {l : List (Int × Int)} {i : Nat} (h : i + 1 < l.length) (hn : ¬ l[i].1 + l[i].2 < l[i + 1].1) : aptE l = false := by
 unfold aptE
 rw [Bool.and_eq_false_iff]
 left
 rw [← Bool.not_eq_true, aptL_iff]
 exact fun hh => hn (hh i h h)
theorem aptL_yes {l : List (Int × Int)} (h : AptI l l.length) : aptE l = decide (2 ≤ l.length) := by
 unfold aptE
 rw [aptL_iff.2 h, Bool.true_and]
/-! the first place -/
theorem idxP_at {p : Int × Int → Bool} {l : List (Int × Int)} {i : Nat} (hi : i < l.length) (ht : p l[i] = true) (hb : ∀ j (hj : j < l.length), j < i → p l[j] = false) : idxP p l = (i : Int) := by
 unfold idxP
 have e : l.findIdx? p = some i := by
  rw [List.findIdx?_eq_some_iff_getElem]
  exact ⟨hi, ht, fun j hj => by rw [hb j (by omega) hj]; simp⟩
 rw [e]
theorem idxP_no {p : Int × Int → Bool} {l : List (Int × Int)} (hb : ∀ j (hj : j < l.length), p l[j] = false) : idxP p l = -1 := by
 unfold idxP
 have e : l.findIdx? p = none := by
  rw [List.findIdx?_eq_none_iff]
  intro c hc
  obtain ⟨j, hj, e⟩ := List.getElem_of_mem hc
  rw [← e]; exact hb j hj
 rw [e]
theorem idxP_lt (p : Int × Int → Bool) (l : List (Int × Int)) : -1 ≤ idxP p l ∧ idxP p l < l.length := by
 unfold idxP
 cases e : l.findIdx? p with
 | none => simp; omega
 | some i =>
  obtain ⟨h, _⟩ := List.findIdx?_eq_some_iff_getElem.1 e
  simp; omega
theorem idxP_mem {p : Int × Int → Bool} {l : List (Int × Int)} {x : Int × Int} (hx : x ∈ l) (hp : p x = true) : 0 ≤ idxP p l := by
 unfold idxP
 cases e : l.findIdx? p with
 | none =>
  rw [List.findIdx?_eq_none_iff] at e
  rw [e x hx] at hp; cases hp
 | some i => simp
end Go.Proofs.Ytjfgklhifhaaoaa
/- Tables in plain lists: orderly spans. Conditions: none. -/
namespace Go.Proofs.Ytjfgklhifhaaoaa
def OrdI (S : List Sp) (k : Nat) : Prop := ∀ i (h : i + 1 < S.length), i + 1 < k → ¬ (S[i].n = S[i + 1].n ∧ S[i + 1].f < S[i].o)
theorem ordL_iff : ∀ {S : List Sp}, ordL S = true ↔ OrdI S S.length
 | [] => by simp [ordL, OrdI]
 | [a] => by simp [ordL, OrdI]
 | a :: b :: r => by
  rw [ordL, Bool.and_eq_true, decide_eq_true_eq, ordL_iff (S := b :: r)]
  constructor
  ·rintro ⟨h1, h2⟩ i hi _
   match i, hi with
   | 0, _ => exact h1
   | i + 1, hi => exact h2 i (by simpa using hi) (by simpa using hi)
  ·intro h
   exact ⟨h 0 (by simp) (by simp), fun i hi hi2 => h (i + 1) (by simp at hi ⊢; omega) (by simp at hi ⊢; omega)⟩
theorem ordE_pair {S : List Sp} {n k i : Nat} (h : i + 1 < S.length) (hn : S[i].n = S[i + 1].n ∧ S[i + 1].f < S[i].o) : ordE S n k = false := by
 have : ordL S = false := by
  rw [← Bool.not_eq_true, ordL_iff]
  exact fun hh => hh i h h hn
 unfold ordE
 rw [this]; rfl
theorem ordE_wide {S : List Sp} {n k i : Nat} (h : i < S.length) (hn : ordW n k S[i] = true) : ordE S n k = false := by
 have : S.any (ordW n k) = true := by
  rw [List.any_eq_true]
  exact ⟨_, List.getElem_mem h, hn⟩
 unfold ordE
 rw [this]; simp
theorem ordE_end {S : List Sp} {n k : Nat} (h : OrdI S S.length) (hw : ∀ i (h : i < S.length), ordW n k S[i] = false) : ordE S n k = (decide (S.countP (fun s => s.n == 0) = 1) && decide (S.countP (fun s => s.n + 1 == n) = 1)) := by
 have : S.any (ordW n k) = false := by
  rw [List.any_eq_false]
  intro x hx
  obtain ⟨j, hj, e⟩ := List.getElem_of_mem hx
  rw [← e, hw j hj]; simp
 unfold ordE
 rw [this, ordL_iff.2 h]; rfl
def cnt0 (S : List Sp) (i : Nat) : Nat := (S.take i).countP fun s => s.n == 0
def cntN (n : Nat) (S : List Sp) (i : Nat) : Nat := (S.take i).countP fun s => s.n + 1 == n
theorem cnt0_succ {S : List Sp} {i : Nat} (h : i < S.length) : cnt0 S (i + 1) = cnt0 S i + if S[i].n = 0 then 1 else 0 := by
 unfold cnt0
 rw [List.take_succ_eq_append_getElem h, List.countP_append]
 congr 1
 by_cases e : S[i].n = 0 <;> simp [e]
theorem cntN_succ {n : Nat} {S : List Sp} {i : Nat} (h : i < S.length) : cntN n S (i + 1) = cntN n S i + if S[i].n + 1 = n then 1 else 0 := by
 unfold cntN
 rw [List.take_succ_eq_append_getElem h, List.countP_append]
 congr 1
 by_cases e : S[i].n + 1 = n <;> simp [e]
theorem cnt_le {S : List Sp} {i : Nat} {p : Sp → Bool} : (S.take i).countP p ≤ i := Nat.le_trans List.countP_le_length (by rw [List.length_take]; omega)
end Go.Proofs.Ytjfgklhifhaaoaa
/- Tables in plain lists: whatever the sort makes of the spans, orderly says the same; the frame. Conditions: none. -/
namespace Go.Proofs.Ytjfgklhifhaaoaa
theorem cmpS_lt {a b : Sp} : cmpS a b < 0 ↔ a.n < b.n ∨ a.n = b.n ∧ a.f < b.f := by
 unfold cmpS
 split
 ·simp [*]
 ·split
  ·simp; omega
  ·split
   ·simp; omega
   ·split <;> simp <;> omega
def SrtS (S : List Sp) : Prop := S.Pairwise fun a b => ¬ cmpS b a < 0
theorem srt_merge (l : List Sp) : SrtS (l.mergeSort spnLe) := by
 have h := List.pairwise_mergeSort (le := spnLe) (fun a b c h1 h2 => by
  unfold spnLe at *
  simp only [Bool.not_eq_true', decide_eq_false_iff_not, cmpS_lt] at *
  omega) (fun a b => by
  unfold spnLe
  simp only [Bool.or_eq_true, Bool.not_eq_true', decide_eq_false_iff_not, cmpS_lt]
  omega) l
 exact h.imp fun h => by unfold spnLe at h; simpa using h
theorem ord_uni {S T : List Sp} {n k : Nat} (hp : S.Perm T) (hs : SrtS S) (ht : SrtS T) (hf : ∀ s ∈ S, s.f < s.o) (h : ordE S n k = true) : S = T := by
 have hI : OrdI S S.length := by
  rw [← ordL_iff]
  unfold ordE at h
  simp only [Bool.and_eq_true] at h
  exact h.1.1.1
 have hst : S.Pairwise fun a b => cmpS a b < 0 := by
  rw [List.pairwise_iff_getElem]
  intro i j hi hj hij
  have h1 := hI i (by omega) (by omega)
  have h2 := hf _ (List.getElem_mem (show i < S.length by omega))
  have h3 := List.pairwise_iff_getElem.1 hs i (i + 1) hi (by omega) (by omega)
  rw [cmpS_lt] at h3 ⊢
  by_cases e : i + 1 = j
  ·subst e; omega
  ·have h4 := List.pairwise_iff_getElem.1 hs (i + 1) j (by omega) hj (by omega)
   rw [cmpS_lt] at h4
   omega
 refine List.Perm.eq_of_pairwise (le := fun a b => ¬ cmpS b a < 0) ?_ hs ht hp
 intro a b ha hb h1 h2
 have hb' := hp.mem_iff.2 hb
 obtain ⟨i, hi, rfl⟩ := List.getElem_of_mem ha
 obtain ⟨j, hj, rfl⟩ := List.getElem_of_mem hb'
 rcases Nat.lt_trichotomy i j with e | e | e
 ·exact absurd (List.pairwise_iff_getElem.1 hst i j hi hj e) h2
 ·subst e; rfl
 ·exact absurd (List.pairwise_iff_getElem.1 hst j i hj hi e) h1
theorem ord_perm {S T : List Sp} {n k : Nat} (hp : S.Perm T) (hs : SrtS S) (ht : SrtS T) (hf : ∀ s ∈ S, s.f < s.o) : ordE S n k = ordE T n k ∧ (ordE T n k = true → S = T) := by
 have h1 := ord_uni (n := n) (k := k) hp hs ht hf
 have h2 := ord_uni (n := n) (k := k) hp.symm ht hs (fun s h => hf s (hp.mem_iff.2 h))
 refine ⟨?_, fun h => (h2 h).symm⟩
 cases e : ordE S n k
 ·cases e' : ordE T n k
  ·rfl
  ·rw [h2 e', e] at e'; cases e'
 ·rw [← h1 e, e]
theorem spn_lt {l : List Ru} {v : Bool} {own oth : List (Int × Int)} (h : spnA l v own oth = true) : ∀ s ∈ spnL l v own oth, s.f < s.o := fun s hs => by
 obtain ⟨r, hr, rfl⟩ := List.mem_map.1 hs
 have := List.all_eq_true.1 h r hr
 have := of_decide_eq_true this
 unfold spnO
 dsimp only
 omega
theorem spn_in {l : List Ru} {v : Bool} {own oth : List (Int × Int)} (h : spnA l v own oth = true) (hown : ∀ r ∈ l, r.v = v → (r.a, r.t) ∈ own) : ∀ s ∈ spnL l v own oth, s.n < own.length ∧ s.o < oth.length := fun s hs => by
 obtain ⟨r, hr, rfl⟩ := List.mem_map.1 hs
 have h1 := List.all_eq_true.1 h r hr
 have h1 := of_decide_eq_true h1
 obtain ⟨hr1, hr2⟩ := List.mem_filter.1 hr
 have h2 : 0 ≤ (spnI own oth r).1 := idxP_mem (hown r hr1 (by simpa using hr2)) (decide_eq_true rfl)
 have h3 := idxP_lt (fun b => decide (b = (r.a, r.t))) own
 have h4 := idxP_lt (fun b => decide (b.1 + b.2 = r.o)) oth
 unfold spnO
 dsimp only
 unfold spnI at *
 dsimp only at *
 omega
/-- a frame of at most m bands and strips: its spans lie in it -/
structure FrOk (f : Fr) (m : Nat) : Prop where
 h2 : 2 ≤ f.H.length
 v2 : 2 ≤ f.V.length
 hm : f.H.length ≤ m
 vm : f.V.length ≤ m
 a : ∀ s ∈ f.A, s.n < f.H.length ∧ s.f < s.o ∧ s.o < f.V.length
 d : ∀ s ∈ f.D, s.n < f.V.length ∧ s.f < s.o ∧ s.o < f.H.length
 al : f.A.length ≤ m
 dl : f.D.length ≤ m
theorem bld_ok {l : List Ru} {f : Fr} (h : bldE l = some f) : FrOk f l.length ∧ f.H = bndE l false ∧ f.V = bndE l true := by
 unfold bldE at h
 dsimp only at h
 split at h
 ·rename_i hc
  split at h
  ·rename_i hd
   obtain rfl := Option.some.inj h
   simp only [Bool.and_eq_true] at hc hd
   obtain ⟨⟨⟨c1, c2⟩, c3⟩, c4⟩ := hc
   have hA : ∀ s, s ∈ (spnL l false (bndE l false) (bndE l true)).mergeSort spnLe ↔ s ∈ spnL l false (bndE l false) (bndE l true) := fun s => (List.mergeSort_perm _ _).mem_iff
   have hD : ∀ s, s ∈ (spnL l true (bndE l true) (bndE l false)).mergeSort spnLe ↔ s ∈ spnL l true (bndE l true) (bndE l false) := fun s => (List.mergeSort_perm _ _).mem_iff
   have e1 : 2 ≤ (bndE l false).length := by unfold aptE at c1; simp only [Bool.and_eq_true, decide_eq_true_eq] at c1; exact c1.2
   have e2 : 2 ≤ (bndE l true).length := by unfold aptE at c2; simp only [Bool.and_eq_true, decide_eq_true_eq] at c2; exact c2.2
   have i1 := spn_in c3 (fun r hr hv => bndE_mem.2 ⟨r, hr, hv, rfl⟩)
   have i2 := spn_in c4 (fun r hr hv => bndE_mem.2 ⟨r, hr, hv, rfl⟩)
   have j1 := spn_lt c3
   have j2 := spn_lt c4
   have ln : ∀ (v : Bool) (own oth : List (Int × Int)), (spnL l v own oth).length ≤ l.length := fun v own oth => by
    unfold spnL ofV
    rw [List.length_map]
    exact List.length_filter_le _ _
   exact ⟨⟨e1, e2, bndE_len _ _, bndE_len _ _, fun s hs => by
    have a := i1 s ((hA s).1 hs)
    have b := j1 s ((hA s).1 hs)
    exact ⟨a.1, b, a.2⟩, fun s hs => by
    have a := i2 s ((hD s).1 hs)
    have b := j2 s ((hD s).1 hs)
    exact ⟨a.1, b, a.2⟩, by dsimp only; rw [List.length_mergeSort]; exact ln _ _ _, by dsimp only; rw [List.length_mergeSort]; exact ln _ _ _⟩, rfl, rfl⟩
  ·cases h
 ·cases h
end Go.Proofs.Ytjfgklhifhaaoaa
