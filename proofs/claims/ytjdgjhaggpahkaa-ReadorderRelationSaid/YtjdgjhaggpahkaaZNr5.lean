/- Reading order: columns are told by their members: the split is unique; the package's columns are one. Conditions: valid boxes. -/
import Derived.Test.YtjdgjhaggpahkaaZNr4
import Derived.Test.YtjdgjhaggpahkaaZRw8
set_option linter.unusedVariables false
set_option linter.unusedSimpArgs false
namespace Go.Proofs.Ytjdgjhaggpahkaa
def bX (l : List Bx) (i : Nat) : Int := (l.getD i default).x
def bR (l : List Bx) (i : Nat) : Int := (l.getD i default).x + (l.getD i default).w
/-- two boxes in one column by themselves -/
def nearB (l : List Bx) (gap : Int) (a b : Nat) : Bool := if bX l b < bX l a then decide (bX l a < bR l b + gap) else decide (bX l b < bR l a + gap)
/-- no part of C stands apart -/
def Conn (l : List Bx) (gap : Int) (C : List Nat) : Prop := ∀ p : Nat → Bool, (∃ a ∈ C, p a = true) → (∃ b ∈ C, p b = false) → ∃ a ∈ C, ∃ b ∈ C, p a = true ∧ p b = false ∧ (nearB l gap a b = true ∨ nearB l gap b a = true)
theorem Conn.single (l : List Bx) (gap : Int) (i : Nat) : Conn l gap [i] := fun p ⟨a, ha, h1⟩ ⟨b, hb, h2⟩ => by
 obtain rfl := List.mem_singleton.1 ha
 obtain rfl := List.mem_singleton.1 hb
 rw [h1] at h2; cases h2
theorem Conn.congr {l : List Bx} {gap : Int} {C D : List Nat} (h : Conn l gap C) (e : ∀ x, x ∈ D ↔ x ∈ C) : Conn l gap D := fun p ⟨a, ha, h1⟩ ⟨b, hb, h2⟩ => by
 obtain ⟨a, ha, b, hb, r⟩ := h p ⟨a, (e a).1 ha, h1⟩ ⟨b, (e b).1 hb, h2⟩
 exact ⟨a, (e a).2 ha, b, (e b).2 hb, r⟩
theorem Conn.grow {l : List Bx} {gap : Int} {C : List Nat} {c k : Nat} (h : Conn l gap C) (hc : c ∈ C) (hk : nearB l gap c k = true) : Conn l gap (C ++ [k]) := fun p ⟨a, ha, h1⟩ ⟨b, hb, h2⟩ => by
 by_cases e1 : ∃ a ∈ C, p a = true
 ·by_cases e2 : ∃ b ∈ C, p b = false
  ·obtain ⟨a, ha, b, hb, r⟩ := h p e1 e2
   exact ⟨a, by simp [ha], b, by simp [hb], r⟩
  ·have hbk : p k = false := by
    rcases List.mem_append.1 hb with q | q
    ·exact absurd ⟨b, q, h2⟩ e2
    ·rw [List.mem_singleton.1 q] at h2; exact h2
   have hcc : p c = true := by
    cases q : p c
    ·exact absurd ⟨c, hc, q⟩ e2
    ·rfl
   exact ⟨c, by simp [hc], k, by simp, hcc, hbk, .inl hk⟩
 ·have hak : p k = true := by
   rcases List.mem_append.1 ha with q | q
   ·exact absurd ⟨a, q, h1⟩ e1
   ·rw [List.mem_singleton.1 q] at h1; exact h1
  have hcc : p c = false := by
   cases q : p c
   ·rfl
   ·exact absurd ⟨c, hc, q⟩ e1
  exact ⟨k, by simp, c, by simp [hc], hak, hcc, .inr hk⟩
/-- R is split into columns from left to right -/
structure Split (l : List Bx) (gap : Int) (R : List Nat) (Cs : List (List Nat)) : Prop where
 ne : ∀ C ∈ Cs, C ≠ []
 cn : ∀ C ∈ Cs, Conn l gap C
 srt : ∀ C ∈ Cs, C.Pairwise fun a b => abvB l b a = false
 sep : Cs.Pairwise fun C D => ∀ x ∈ C, ∀ y ∈ D, bR l x + gap ≤ bX l y
 pm : Cs.flatten.Perm R
theorem near_no {l : List Bx} {gap : Int} {a b : Nat} (hg : 0 ≤ gap) (hw : bX l a < bR l a) (h : bR l a + gap ≤ bX l b) : ¬ (nearB l gap a b = true ∨ nearB l gap b a = true) := by
 unfold nearB
 rw [if_neg (by omega), if_pos (by omega)]
 simp; omega
theorem min_mem (f : Nat → Int) : ∀ (R : List Nat), R ≠ [] → ∃ m ∈ R, ∀ x ∈ R, f m ≤ f x
 | [a], _ => ⟨a, by simp, fun x hx => by rw [List.mem_singleton.1 hx]; exact Int.le_refl _⟩
 | a :: b :: R, _ => by
  obtain ⟨m, hm, h⟩ := min_mem f (b :: R) (by simp)
  by_cases e : f a ≤ f m
  ·exact ⟨a, by simp, fun x hx => by
    rcases List.mem_cons.1 hx with q | q
    ·rw [q]; exact Int.le_refl _
    ·exact Int.le_trans e (h x q)⟩
  ·exact ⟨m, List.mem_cons_of_mem _ hm, fun x hx => by
    rcases List.mem_cons.1 hx with q | q
    ·rw [q]; omega
    ·exact h x q⟩
theorem Split.first {l : List Bx} {gap : Int} {R C D : List Nat} {Cs Ds : List (List Nat)} (hg : 0 ≤ gap) (hw : ∀ i ∈ R, bX l i < bR l i) (h : Split l gap R (C :: Cs)) (k : Split l gap R (D :: Ds)) : ∀ x ∈ C, x ∈ D := by
 have memR : ∀ (E : List Nat) (Es : List (List Nat)), Split l gap R (E :: Es) → ∀ x, x ∈ R ↔ (x ∈ E ∨ ∃ F ∈ Es, x ∈ F) := fun E Es s x => by
  rw [← s.pm.mem_iff, List.flatten_cons, List.mem_append, List.mem_flatten]
 have hR : R ≠ [] := fun e => by
  obtain ⟨x, hx⟩ := List.exists_mem_of_ne_nil C (h.ne C (by simp))
  have := (memR C Cs h x).2 (.inl hx)
  rw [e] at this; cases this
 obtain ⟨m, hm, hmin⟩ := min_mem (bX l) R hR
 have inE : ∀ (E : List Nat) (Es : List (List Nat)), Split l gap R (E :: Es) → m ∈ E := fun E Es s => by
  rcases (memR E Es s m).1 hm with q | ⟨F, hF, q⟩
  ·exact q
  ·obtain ⟨x, hx⟩ := List.exists_mem_of_ne_nil E (s.ne E (by simp))
   have h1 := (List.pairwise_cons.1 s.sep).1 F hF x hx m q
   have hxR := (memR E Es s x).2 (.inl hx)
   have h2 := hw x hxR
   have h3 := hmin x hxR
   omega
 intro x hx
 cases hq : D.contains x with
 | true => simpa using hq
 | false =>
  obtain ⟨a, ha, b, hb, p1, p2, hn⟩ := h.cn C (by simp) (fun i => D.contains i) ⟨m, inE C Cs h, by simpa using inE D Ds k⟩ ⟨x, hx, hq⟩
  have haD : a ∈ D := by simpa using p1
  have hbD : b ∉ D := by simpa using p2
  rcases (memR D Ds k b).1 ((memR C Cs h b).2 (.inl hb)) with q | ⟨F, hF, q⟩
  ·exact absurd q hbD
  ·have h1 := (List.pairwise_cons.1 k.sep).1 F hF a haD b q
   exact absurd hn (near_no hg (hw a ((memR C Cs h a).2 (.inl ha))) h1)
theorem Split.nodup {l : List Bx} {gap : Int} {R : List Nat} {Cs : List (List Nat)} (h : Split l gap R Cs) (hd : R.Nodup) {C : List Nat} (hC : C ∈ Cs) : C.Nodup :=
 (h.pm.nodup_iff.2 hd).sublist (List.sublist_flatten_of_mem hC)
theorem split_unique {l : List Bx} {gap : Int} (hg : 0 ≤ gap) : ∀ (Cs Ds : List (List Nat)) (R : List Nat), R.Nodup → (∀ i ∈ R, bX l i < bR l i) → Split l gap R Cs → Split l gap R Ds → Cs = Ds
 | [], [], _, _, _, _, _ => rfl
 | [], D :: Ds, R, _, _, h, k => by
  have h1 := h.pm.length_eq
  have h2 := k.pm.length_eq
  have h3 := k.ne D (by simp)
  have h4 : 0 < D.length := List.length_pos_iff.2 h3
  rw [List.flatten_cons, List.length_append] at h2
  simp at h1
  omega
 | C :: Cs, [], R, _, _, h, k => by
  have h1 := k.pm.length_eq
  have h2 := h.pm.length_eq
  have h3 := h.ne C (by simp)
  have h4 : 0 < C.length := List.length_pos_iff.2 h3
  rw [List.flatten_cons, List.length_append] at h2
  simp at h1
  omega
 | C :: Cs, D :: Ds, R, hd, hw, h, k => by
  have hCD : ∀ x, x ∈ C ↔ x ∈ D := fun x => ⟨h.first hg hw k x, k.first hg hw h x⟩
  have hp : C.Perm D := (List.perm_ext_iff_of_nodup (h.nodup hd (by simp)) (k.nodup hd (by simp))).2 hCD
  obtain rfl : C = D := abv_unique l hp (h.srt C (by simp)) (k.srt D (by simp))
  have hpm : Cs.flatten.Perm Ds.flatten := by
   have := h.pm.trans k.pm.symm
   rw [List.flatten_cons, List.flatten_cons] at this
   exact (List.perm_append_left_iff C).1 this
  have hsub : ∀ i ∈ Ds.flatten, i ∈ R := fun i hi => k.pm.mem_iff.1 (by rw [List.flatten_cons, List.mem_append]; exact .inr hi)
  have hnd : Ds.flatten.Nodup := by
   have := k.pm.nodup_iff.2 hd
   rw [List.flatten_cons, List.nodup_append] at this
   exact this.2.1
  rw [split_unique hg Cs Ds Ds.flatten hnd (fun i hi => hw i (hsub i hi))
   ⟨fun E hE => h.ne E (by simp [hE]), fun E hE => h.cn E (by simp [hE]), fun E hE => h.srt E (by simp [hE]), (List.pairwise_cons.1 h.sep).2, hpm⟩
   ⟨fun E hE => k.ne E (by simp [hE]), fun E hE => k.cn E (by simp [hE]), fun E hE => k.srt E (by simp [hE]), (List.pairwise_cons.1 k.sep).2, List.Perm.refl _⟩]
/-- what the package knows of the boxes so far -/
structure NumI (l : List Bx) (gap : Int) (P : List Nat) (s : NumS) : Prop where
 lt : ∀ i ∈ P, s.f i < s.c
 ne : ∀ k, k < s.c → ∃ i ∈ P, s.f i = k
 cn : ∀ k, k < s.c → Conn l gap (P.filter fun i => s.f i == k)
 sep : ∀ i ∈ P, ∀ j ∈ P, s.f i < s.f j → bR l i + gap ≤ bX l j
 le : ∀ i ∈ P, s.f i + 1 = s.c → bR l i ≤ s.e
 ex : 0 < s.c → ∃ i ∈ P, s.f i + 1 = s.c ∧ bR l i = s.e
 nz : P ≠ [] → 0 < s.c
theorem filt_upd (P : List Nat) (f : Nat → Nat) {i v k : Nat} (hi : i ∉ P) : (P.filter fun j => updF f i v j == k) = P.filter fun j => f j == k := by
 apply List.filter_congr
 intro j hj
 have : j ≠ i := fun e => hi (e ▸ hj)
 simp [updF, this]
theorem NumI.step {l : List Bx} {gap : Int} {P : List Nat} {s : NumS} {i : Nat} (h : NumI l gap P s) (hi : i ∉ P) (hx : ∀ j ∈ P, bX l j ≤ bX l i) : NumI l gap (P ++ [i]) (numStep l gap s i) := by
 have hup : ∀ j ∈ P, ∀ v, updF s.f i v j = s.f j := fun j hj v => by
  have : j ≠ i := fun e => hi (e ▸ hj)
  simp [updF, this]
 have hii : ∀ v, updF s.f i v i = v := fun v => by simp [updF]
 have hmem : ∀ j, j ∈ P ++ [i] ↔ j ∈ P ∨ j = i := fun j => by simp
 unfold numStep
 by_cases hc : s.c = 0 ∨ s.e + gap ≤ (l.getD i default).x
 ·rw [if_pos hc]
  have hlast : ∀ j ∈ P, bR l j + gap ≤ bX l i := fun j hj => by
   have hlt := h.lt j hj
   rcases hc with hc | hc
   ·omega
   ·by_cases e : s.f j + 1 = s.c
    ·have := h.le j hj e
     unfold bX at *
     omega
    ·obtain ⟨q, hq, e2, _⟩ := h.ex (by omega)
     have h1 := h.sep j hj q hq (by omega)
     have h2 := hx q hq
     omega
  refine ⟨fun j hj => ?_, fun k hk => ?_, fun k hk => ?_, fun a ha b hb hlt => ?_, fun j hj e => ?_, fun _ => ⟨i, by simp, by simp [hii], rfl⟩, fun _ => Nat.succ_pos _⟩
  all_goals (try dsimp only at *)
  ·rcases (hmem j).1 hj with q | q
   ·rw [hup j q]; exact Nat.lt_succ_of_lt (h.lt j q)
   ·subst q; rw [hii]; exact Nat.lt_succ_self _
  ·rcases Nat.lt_or_ge k s.c with q | q
   ·obtain ⟨j, hj, e⟩ := h.ne k q
    exact ⟨j, (hmem j).2 (.inl hj), by rw [hup j hj]; exact e⟩
   ·exact ⟨i, by simp, by rw [hii]; omega⟩
  ·rw [List.filter_append, filt_upd P s.f hi]
   rcases Nat.lt_or_ge k s.c with q | q
   ·have e : ([i].filter fun j => updF s.f i s.c j == k) = [] := by simp [hii]; omega
    rw [e, List.append_nil]
    exact h.cn k q
   ·have hk2 : s.c = k := by omega
    have e : ([i].filter fun j => updF s.f i s.c j == k) = [i] := by simp [hii, hk2]
    have e2 : (P.filter fun j => s.f j == k) = [] := by
     rw [List.filter_eq_nil_iff]
     intro j hj
     have := h.lt j hj
     simp; omega
    rw [e, e2, List.nil_append]
    exact Conn.single l gap i
  ·rcases (hmem a).1 ha with qa | qa
   ·rcases (hmem b).1 hb with qb | qb
    ·rw [hup a qa, hup b qb] at hlt
     exact h.sep a qa b qb hlt
    ·subst qb; exact hlast a qa
   ·subst qa
    rcases (hmem b).1 hb with qb | qb
    ·rw [hii, hup b qb] at hlt
     have := h.lt b qb
     omega
    ·subst qb; omega
  ·rcases (hmem j).1 hj with q | q
   ·rw [hup j q] at e
    have := h.lt j q
    omega
   ·subst q; exact Int.le_refl _
 ·rw [if_neg hc]
  have hc0 : 0 < s.c := by omega
  have hce : (l.getD i default).x < s.e + gap := by omega
  obtain ⟨q, hq, e2, e3⟩ := h.ex hc0
  have hnear : nearB l gap q i = true := by
   unfold nearB
   have := hx q hq
   rw [if_neg (by omega), e3]
   unfold bX
   simp; exact hce
  have hlast : ∀ j ∈ P, s.f j < s.c - 1 → bR l j + gap ≤ bX l i := fun j hj hlt => by
   have h1 := h.sep j hj q hq (by omega)
   have h2 := hx q hq
   omega
  refine ⟨fun j hj => ?_, fun k hk => ?_, fun k hk => ?_, fun a ha b hb hlt => ?_, fun j hj e => ?_, fun _ => ?_, fun _ => hc0⟩
  all_goals (try dsimp only at *)
  ·rcases (hmem j).1 hj with r | r
   ·rw [hup j r]; exact h.lt j r
   ·subst r; rw [hii]; omega
  ·obtain ⟨j, hj, e⟩ := h.ne k hk
   exact ⟨j, (hmem j).2 (.inl hj), by rw [hup j hj]; exact e⟩
  ·rw [List.filter_append, filt_upd P s.f hi]
   by_cases ek : s.c - 1 = k
   ·have e : ([i].filter fun j => updF s.f i (s.c - 1) j == k) = [i] := by simp [hii, ek]
    rw [e]
    exact (h.cn k hk).grow (c := q) (by rw [List.mem_filter]; exact ⟨hq, by simp; omega⟩) hnear
   ·have e : ([i].filter fun j => updF s.f i (s.c - 1) j == k) = [] := by simp [hii, ek]
    rw [e, List.append_nil]
    exact h.cn k hk
  ·rcases (hmem a).1 ha with qa | qa
   ·rcases (hmem b).1 hb with qb | qb
    ·rw [hup a qa, hup b qb] at hlt
     exact h.sep a qa b qb hlt
    ·subst qb
     rw [hii, hup a qa] at hlt
     exact hlast a qa hlt
   ·subst qa
    rcases (hmem b).1 hb with qb | qb
    ·rw [hii, hup b qb] at hlt
     have := h.lt b qb
     omega
    ·subst qb; omega
  ·rcases (hmem j).1 hj with r | r
   ·rw [hup j r] at e
    have := h.le j r e
    omega
   ·subst r
    unfold bR
    omega
  ·by_cases hb : s.e ≤ bR l i
   ·refine ⟨i, by simp, by rw [hii]; omega, ?_⟩
    unfold bR at *
    omega
   ·refine ⟨q, by simp [hq], by rw [hup q hq]; exact e2, ?_⟩
    unfold bR at *
    omega
theorem numI_all (l : List Bx) (gap : Int) : ∀ (Q P : List Nat) (s : NumS), NumI l gap P s → (P ++ Q).Nodup → SrtX l (P ++ Q) → NumI l gap (P ++ Q) (Q.foldl (numStep l gap) s)
 | [], P, s, h, _, _ => by simpa using h
 | i :: Q, P, s, h, hn, hs => by
  have e : P ++ i :: Q = (P ++ [i]) ++ Q := by simp
  rw [e] at hn hs ⊢
  rw [List.foldl_cons]
  refine numI_all l gap Q (P ++ [i]) _ (h.step ?_ fun j hj => ?_) hn hs
  ·intro hi
   have := (List.nodup_append.1 (List.nodup_append.1 hn).1).2.2 i hi i (by simp)
   exact this rfl
  ·have h1 := (List.pairwise_append.1 hs).1
   exact (List.pairwise_append.1 h1).2.2 j hj i (by simp)
theorem numI (l : List Bx) (gap : Int) {O : List Nat} (hn : O.Nodup) (hs : SrtX l O) : NumI l gap O (numS l gap O) := by
 have := numI_all l gap O [] ⟨0, 0, fun _ => 0⟩ ⟨fun i hi => (by cases hi), fun k (hk : k < 0) => by omega, fun k (hk : k < 0) => by omega, fun i hi => (by cases hi), fun i hi => (by cases hi), fun (h : 0 < 0) => by omega, fun h => absurd rfl h⟩ (by rw [List.nil_append]; exact hn) (by rw [List.nil_append]; exact hs)
 rw [List.nil_append] at this
 exact this
theorem flat_filter (f : Nat → Nat) (D : List Nat) : ∀ (n : Nat), ((List.range n).map fun k => D.filter fun i => f i == k).flatten.Perm (D.filter fun i => decide (f i < n))
 | 0 => by
  have : (D.filter fun i => decide (f i < 0)) = [] := by rw [List.filter_eq_nil_iff]; intro a _; simp
  rw [this]; exact List.Perm.refl _
 | n + 1 => by
  rw [List.range_succ, List.map_append, List.flatten_append]
  have h := (flat_filter f D n).append_right (D.filter fun i => f i == n)
  have e0 : (List.map (fun k => D.filter fun i => f i == k) [n]).flatten = D.filter fun i => f i == n := by simp
  rw [e0]
  refine h.trans ?_
  have h1 : (D.filter fun i => decide (f i < n)) = (D.filter fun i => decide (f i < n + 1)).filter fun i => decide (f i < n) := by
   rw [List.filter_filter]
   apply List.filter_congr
   intro a _
   simp; omega
  have h2 : (D.filter fun i => f i == n) = (D.filter fun i => decide (f i < n + 1)).filter fun i => !decide (f i < n) := by
   rw [List.filter_filter]
   apply List.filter_congr
   intro a _
   rw [Bool.eq_iff_iff]
   simp; omega
  rw [h1, h2]
  exact List.filter_append_perm _ _
/-- the package's columns are a split -/
theorem colG_split (l : List Bx) (gap : Int) {O : List Nat} (hp : O.Perm (List.range l.length)) (hs : SrtX l O) : Split l gap (List.range l.length) (colG (numS l gap O).c (numS l gap O).f (dwnB l)) := by
 have hI := numI l gap (hp.nodup_iff.2 List.nodup_range) hs
 generalize numS l gap O = s at *
 have hmem : ∀ i, i ∈ dwnB l ↔ i ∈ O := fun i => by rw [dwnB_lt, hp.mem_iff, List.mem_range]
 have hC : ∀ C ∈ colG s.c s.f (dwnB l), ∃ k, k < s.c ∧ C = (dwnB l).filter fun i => s.f i == k := fun C hC => by
  unfold colG at hC
  obtain ⟨k, hk, e⟩ := List.mem_map.1 hC
  exact ⟨k, List.mem_range.1 hk, e.symm⟩
 refine ⟨fun C h => ?_, fun C h => ?_, fun C h => ?_, ?_, ?_⟩
 ·obtain ⟨k, hk, rfl⟩ := hC C h
  obtain ⟨i, hi, e⟩ := hI.ne k hk
  intro hn
  have : i ∈ (dwnB l).filter fun i => s.f i == k := by rw [List.mem_filter]; exact ⟨(hmem i).2 hi, by simp [e]⟩
  rw [hn] at this; cases this
 ·obtain ⟨k, hk, rfl⟩ := hC C h
  exact (hI.cn k hk).congr fun x => by rw [List.mem_filter, List.mem_filter, hmem]
 ·obtain ⟨k, hk, rfl⟩ := hC C h
  exact (dwnB_sorted l).sublist List.filter_sublist
 ·unfold colG
  rw [List.pairwise_map]
  refine List.pairwise_lt_range.imp ?_
  intro a b hab x hx y hy
  rw [List.mem_filter] at hx hy
  have e1 : s.f x = a := by simpa using hx.2
  have e2 : s.f y = b := by simpa using hy.2
  exact hI.sep x ((hmem x).1 hx.1) y ((hmem y).1 hy.1) (by omega)
 ·unfold colG
  refine (flat_filter s.f (dwnB l) s.c).trans ?_
  have : ((dwnB l).filter fun i => decide (s.f i < s.c)) = dwnB l := by
   rw [List.filter_eq_self]
   intro i hi
   exact decide_eq_true (hI.lt i ((hmem i).1 hi))
  rw [this]
  exact dwnB_perm l
end Go.Proofs.Ytjdgjhaggpahkaa
