/- Tables in plain lists: the search of a cell finds the places that are joined to the first. Conditions: none. -/
import Derived.Test.YtjfgklhifhaaoaaZPC
set_option linter.unusedVariables false
set_option linter.unusedSimpArgs false
namespace Go.Proofs.Ytjfgklhifhaaoaa
/-- the state of a search of the places C: m are the marks ahead of it -/
structure FlI (p : Pl) (m : List Bool) (C : Nat → Prop) (s : List Bool × List Nat) : Prop where
 len : s.1.length = m.length
 keep : ∀ x, at0 m x = true → at0 s.1 x = true
 new : ∀ x, at0 s.1 x = true → at0 m x = false → C x
 st : ∀ x ∈ s.2, at0 s.1 x = true ∧ at0 m x = false
 nd : s.2.Nodup
theorem at0_set {l : List Bool} {i j : Nat} (h : i < l.length) : at0 (l.set i true) j = if j = i then true else at0 l j := by
 unfold at0
 rw [List.getD_eq_getElem?_getD, List.getD_eq_getElem?_getD, List.getElem?_set]
 by_cases e : i = j
 ·subst e; rw [if_pos rfl, if_pos h, if_pos rfl]; rfl
 ·rw [if_neg e, if_neg (fun h => e h.symm)]
theorem FlI.push {p : Pl} {m : List Bool} {C : Nat → Prop} {s : List Bool × List Nat} {o : Nat} (h : FlI p m C s) (ho : C o) (hl : o < m.length) : FlI p m C (pushD s o) := by
 cases hm : at0 s.1 o
 ·rw [push_new hm]
  have hl' : o < s.1.length := by rw [h.len]; exact hl
  refine ⟨by simpa using h.len, fun x hx => ?_, fun x hx h0 => ?_, fun x hx => ?_, ?_⟩
  ·rw [at0_set hl']; split
   ·rfl
   ·exact h.keep x hx
  ·rw [at0_set hl'] at hx
   split at hx
   ·rename_i e; rw [e]; exact ho
   ·exact h.new x hx h0
  ·rw [at0_set hl']
   rcases List.mem_append.1 hx with h1 | h1
   ·obtain ⟨a, b⟩ := h.st x h1
    refine ⟨?_, b⟩
    split
    ·rfl
    ·exact a
   ·obtain rfl : x = o := by simpa using h1
    refine ⟨by rw [if_pos rfl], ?_⟩
    cases e : at0 m x
    ·rfl
    ·rw [h.keep x e] at hm; cases hm
  ·rw [List.nodup_append]
   refine ⟨h.nd, by simp, fun a ha b hb => ?_⟩
   obtain rfl : b = o := by simpa using hb
   intro e
   rw [e] at ha
   rw [(h.st b ha).1] at hm; cases hm
 ·rw [push_met hm]; exact h
theorem push_grow {s : List Bool × List Nat} {o : Nat} (hl : o < s.1.length) : (∀ x, at0 s.1 x = true → at0 (pushD s o).1 x = true) ∧ at0 (pushD s o).1 o = true ∧ ∀ x, x ∈ s.2 → x ∈ (pushD s o).2 := by
 cases hm : at0 s.1 o
 ·rw [push_new hm]
  refine ⟨fun x hx => ?_, by rw [at0_set hl, if_pos rfl], fun x hx => List.mem_append_left _ hx⟩
  rw [at0_set hl]; split
  ·rfl
  ·exact hx
 ·rw [push_met hm]; exact ⟨fun _ h => h, hm, fun _ h => h⟩
theorem push_len (s : List Bool × List Nat) (o : Nat) : (pushD s o).1.length = s.1.length := by
 unfold pushD; split
 ·rfl
 ·simp
theorem fold_grow : ∀ (l : List Nat) (s : List Bool × List Nat), (∀ x ∈ l, x < s.1.length) → (∀ x, at0 s.1 x = true → at0 (l.foldl pushD s).1 x = true) ∧ (∀ x ∈ l, at0 (l.foldl pushD s).1 x = true) ∧ ∀ x, x ∈ s.2 → x ∈ (l.foldl pushD s).2
 | [], s, _ => ⟨fun _ h => h, fun _ h => by simp at h, fun _ h => h⟩
 | a :: l, s, h => by
  obtain ⟨h1, h2, h3⟩ := push_grow (s := s) (h a (by simp))
  obtain ⟨g1, g2, g3⟩ := fold_grow l (pushD s a) (fun x hx => by rw [push_len]; exact h x (by simp [hx]))
  rw [List.foldl_cons]
  refine ⟨fun x hx => g1 x (h1 x hx), fun x hx => ?_, fun x hx => g3 x (h3 x hx)⟩
  rcases List.mem_cons.1 hx with rfl | hx
  ·exact g1 _ h2
  ·exact g2 x hx
theorem push_new_st {s : List Bool × List Nat} {o x : Nat} (hx : at0 (pushD s o).1 x = true) (h0 : at0 s.1 x = false) : x ∈ (pushD s o).2 := by
 cases hm : at0 s.1 o
 ·rw [push_new hm] at hx ⊢
  by_cases hl : o < s.1.length
  ·rw [at0_set hl] at hx
   split at hx
   ·rename_i e; rw [e]; simp
   ·rw [h0] at hx; cases hx
  ·rw [List.set_eq_of_length_le (by omega), h0] at hx; cases hx
 ·rw [push_met hm, h0] at hx; cases hx
theorem push_st (s : List Bool × List Nat) (o x : Nat) (h : x ∈ s.2) : x ∈ (pushD s o).2 := by
 unfold pushD; split
 ·exact h
 ·exact List.mem_append_left _ h
theorem fold_st : ∀ (l : List Nat) (s : List Bool × List Nat) (x : Nat), x ∈ s.2 → x ∈ (l.foldl pushD s).2
 | [], _, _, h => h
 | a :: l, s, x, h => by rw [List.foldl_cons]; exact fold_st l _ x (push_st s a x h)
theorem fold_new : ∀ (l : List Nat) (s : List Bool × List Nat) (x : Nat), at0 (l.foldl pushD s).1 x = true → at0 s.1 x = false → x ∈ (l.foldl pushD s).2
 | [], s, x, hx, h0 => by rw [List.foldl_nil, h0] at hx; cases hx
 | a :: l, s, x, hx, h0 => by
  rw [List.foldl_cons] at hx ⊢
  cases h1 : at0 (pushD s a).1 x
  ·exact fold_new l _ x hx h1
  ·exact fold_st l _ x (push_new_st h1 h0)
theorem FlI.fold {p : Pl} {m : List Bool} {C : Nat → Prop} : ∀ (l : List Nat) (s : List Bool × List Nat), FlI p m C s → (∀ x ∈ l, C x ∧ x < m.length) → FlI p m C (l.foldl pushD s)
 | [], _, h, _ => h
 | a :: l, s, h, hl => by
  rw [List.foldl_cons]
  exact FlI.fold l _ (h.push (hl a (by simp)).1 (hl a (by simp)).2) fun x hx => hl x (by simp [hx])
/-- .. and every new place that is not on the stack has all its neighbours met -/
structure FlD (p : Pl) (m : List Bool) (C : Nat → Prop) (i0 : Nat) (s : Df) : Prop where
 i : FlI p m C (s.met, s.st)
 fr : ∀ x, at0 s.met x = true → at0 m x = false → x ∉ s.st → ∀ y ∈ nxtL p x, at0 s.met y = true
 one : at0 s.met i0 = true
theorem FlD.step {p : Pl} {m : List Bool} {C : Nat → Prop} {i0 : Nat} {s : Df} {st : List Nat} {i : Nat} (h : FlD p m C i0 s) (hs : s.st = st ++ [i]) (hm : m.length = p.rows * p.cols) (hC : ∀ x, C x → x < p.rows * p.cols ∧ ∀ y ∈ nxtL p x, C y) : FlD p m C i0 (stepD p s i) := by
 obtain ⟨hI, hf, h1⟩ := h
 have hi := hI.st i (by show i ∈ s.st; rw [hs]; simp)
 have hCi := hI.new i hi.1 hi.2
 obtain ⟨hiN, hnC⟩ := hC i hCi
 have hst : stepD p s i = ⟨((nxtL p i).foldl pushD (s.met, st)).1, ((nxtL p i).foldl pushD (s.met, st)).2, s.n + 1, min s.t (i / p.cols), max s.b (i / p.cols), min s.l (i % p.cols), max s.r (i % p.cols)⟩ := by
  unfold stepD
  rw [hs, List.dropLast_concat]
 have hI0 : FlI p m C (s.met, st) := ⟨hI.len, hI.keep, hI.new, fun x hx => hI.st x (by show x ∈ s.st; rw [hs]; exact List.mem_append_left _ hx), by
  have := hI.nd
  show st.Nodup
  have e : s.st.Nodup := this
  rw [hs, List.nodup_append] at e
  exact e.1⟩
 have hlen : s.met.length = m.length := hI.len
 have hI1 := FlI.fold (nxtL p i) _ hI0 (fun x hx => ⟨hnC x hx, by rw [hm]; exact (hC x (hnC x hx)).1⟩)
 obtain ⟨g1, g2, g3⟩ := fold_grow (nxtL p i) (s.met, st) (fun x hx => by show x < s.met.length; rw [hlen, hm]; exact (hC x (hnC x hx)).1)
 rw [hst]
 refine ⟨hI1, fun x hx h0 hn y hy => ?_, g1 _ h1⟩
 dsimp only at hx hn ⊢
 by_cases e : x = i
 ·subst e; exact g2 y hy
 ·by_cases hmx : at0 s.met x = true
  ·exact g1 y (hf x hmx h0 (fun hin => by
    rw [hs] at hin
    rcases List.mem_append.1 hin with h2 | h2
    ·exact hn (g3 x h2)
    ·exact e (by simpa using h2)) y hy)
  ·exact absurd (fold_new (nxtL p i) (s.met, st) x hx (by simpa using hmx)) hn
/-- a place that is reached from i within what is not separated -/
inductive Rch (p : Pl) (i : Nat) : Nat → Prop
 | refl : Rch p i i
 | next {x y : Nat} : Rch p i x → y ∈ nxtL p x → Rch p i y
/-- the search's end: what is met are the old marks and the places that are reached -/
theorem FlD.done {p : Pl} {m : List Bool} {C : Nat → Prop} {i : Nat} {s : Df} (h : FlD p m C i s) (he : s.st = []) (hm : ∀ x, C x → at0 m x = false) (hc : C i) (hcl : ∀ x, C x → ∀ y ∈ nxtL p x, C y) (hr : ∀ x, C x → Rch p i x) (x : Nat) : at0 s.met x = true ↔ at0 m x = true ∨ C x := by
 constructor
 ·intro hx
  cases h0 : at0 m x
  ·exact .inr (h.i.new x hx h0)
  ·exact .inl rfl
 ·rintro (hx | hx)
  ·exact h.i.keep x hx
  ·have key : ∀ y, Rch p i y → at0 s.met y = true ∧ C y := fun y hy => by
    induction hy with
    | refl => exact ⟨h.one, hc⟩
    | next _ hy ih => exact ⟨h.fr _ ih.1 (hm _ ih.2) (by rw [he]; simp) _ hy, hcl _ ih.2 _ hy⟩
   exact (key x (hr x hx)).1
theorem FlD.fin {p : Pl} {F : Df} {m : List Bool} {C : Nat → Prop} {i : Nat} (hm : m.length = p.rows * p.cols) (hC : ∀ x, C x → x < p.rows * p.cols ∧ ∀ y ∈ nxtL p x, C y) : ∀ (k : Nat) (s : Df), fuelD s = k → DfOk p F s → FlD p m C i s → FlD p m C i F ∧ F.st = [] := fun k => by
 induction k using Nat.strongRecOn with
 | _ k ih =>
  intro s hk h hf
  rcases List.eq_nil_or_concat s.st with he | ⟨st, a, he⟩
  ·obtain rfl := df_end h he
   exact ⟨hf, he⟩
  ·rw [List.concat_eq_append] at he
   obtain ⟨_, _, _, h2, hlt, _⟩ := df_step h he
   exact ih _ (by omega) _ rfl h2 (hf.step he hm hC)
theorem FlD.start {p : Pl} {m : List Bool} {C : Nat → Prop} {i : Nat} (h0 : at0 m i = false) (hi : i < m.length) (hc : C i) : FlD p m C i (startD p m i) := by
 refine ⟨⟨by simp [startD], fun x hx => ?_, fun x hx hx0 => ?_, fun x hx => ?_, by simp [startD]⟩, fun x hx hx0 hn => ?_, ?_⟩
 ·show at0 (m.set i true) x = true
  rw [at0_set hi]; split
  ·rfl
  ·exact hx
 ·have hx : at0 (m.set i true) x = true := hx
  rw [at0_set hi] at hx
  split at hx
  ·rename_i e; rw [e]; exact hc
  ·rw [hx0] at hx; cases hx
 ·obtain rfl : x = i := by simpa [startD] using hx
  exact ⟨by show at0 (m.set x true) x = true; rw [at0_set hi, if_pos rfl], h0⟩
 ·have hx : at0 (m.set i true) x = true := hx
  rw [at0_set hi] at hx
  split at hx
  ·rename_i e; exact absurd (show x ∈ [i] by rw [e]; simp) hn
  ·rw [hx0] at hx; cases hx
 ·show at0 (m.set i true) i = true
  rw [at0_set hi, if_pos rfl]
/-- what the search of a cell has met -/
theorem find_met {p : Pl} {m : List Bool} {C : Nat → Prop} {i : Nat} (hl : m.length = p.rows * p.cols) (hi : i < p.rows * p.cols) (hc : C i) (hm : ∀ x, C x → at0 m x = false) (hC : ∀ x, C x → x < p.rows * p.cols ∧ ∀ y ∈ nxtL p x, C y) (hr : ∀ x, C x → Rch p i x) (x : Nat) :
  at0 (findD p m i).met x = true ↔ at0 m x = true ∨ C x := by
 obtain ⟨h1, h2⟩ := FlD.fin hl hC _ _ rfl (df_start hl hi (hm i hc)) (FlD.start (hm i hc) (by omega) hc)
 exact h1.done h2 hm hc (fun x hx => (hC x hx).2) hr x
end Go.Proofs.Ytjfgklhifhaaoaa
/- Tables in plain lists: the number of places and the bounds that the search of a cell finds. Conditions: none. -/
namespace Go.Proofs.Ytjfgklhifhaaoaa
/-- the bounds hold for the places that were taken off the stack, and for the first; each is attained in C -/
structure FlB (p : Pl) (m : List Bool) (C : Nat → Prop) (i0 : Nat) (s : Df) : Prop where
 n : s.n + fuelD s = m.countP (· == false)
 all : ∀ x, (x = i0 ∨ at0 s.met x = true ∧ at0 m x = false ∧ x ∉ s.st) → s.t ≤ x / p.cols ∧ x / p.cols ≤ s.b ∧ s.l ≤ x % p.cols ∧ x % p.cols ≤ s.r
 t : ∃ x, C x ∧ x / p.cols = s.t
 b : ∃ x, C x ∧ x / p.cols = s.b
 l : ∃ x, C x ∧ x % p.cols = s.l
 r : ∃ x, C x ∧ x % p.cols = s.r
theorem FlB.start {p : Pl} {m : List Bool} {C : Nat → Prop} {i : Nat} (h0 : at0 m i = false) (hi : i < m.length) (hc : C i) : FlB p m C i (startD p m i) := by
 have hcs := count_set hi h0
 refine ⟨?_, fun x hx => ?_, ⟨i, hc, rfl⟩, ⟨i, hc, rfl⟩, ⟨i, hc, rfl⟩, ⟨i, hc, rfl⟩⟩
 ·unfold fuelD startD
  simp only [List.length_cons, List.length_nil]
  omega
 ·have e : x = i := by
   rcases hx with e | ⟨h1, h2, h3⟩
   ·exact e
   ·have h1 : at0 (m.set i true) x = true := h1
    rw [at0_set hi] at h1
    split at h1
    ·assumption
    ·rw [h2] at h1; cases h1
  subst e
  exact ⟨Nat.le_refl _, Nat.le_refl _, Nat.le_refl _, Nat.le_refl _⟩
theorem FlB.step {p : Pl} {F : Df} {m : List Bool} {C : Nat → Prop} {i0 : Nat} {s : Df} {st : List Nat} {i : Nat} (h : FlB p m C i0 s) (hk : DfOk p F s) (hd : FlD p m C i0 s) (hs : s.st = st ++ [i]) (hC : ∀ x, C x → x < p.rows * p.cols ∧ ∀ y ∈ nxtL p x, C y) : FlB p m C i0 (stepD p s i) := by
 obtain ⟨hn, ha, ht, hb, hl, hr⟩ := h
 obtain ⟨_, hpu, hf1, _, hf2, hst⟩ := df_step hk hs
 have hi := hd.i.st i (by show i ∈ s.st; rw [hs]; simp)
 have hCi := hd.i.new i hi.1 hi.2
 have hf : fuelD (stepD p s i) = fuelD s - 1 := by
  rw [hst]
  exact (PuOk.fold _ _ hpu (nxt_lt (hC i hCi).1)).cnt
 have hn1 : (stepD p s i).n = s.n + 1 := by rw [hst]
 refine ⟨by rw [hf, hn1]; omega, fun x hx => ?_, ?_, ?_, ?_, ?_⟩
 ·have hx2 : x = i ∨ (x = i0 ∨ at0 s.met x = true ∧ at0 m x = false ∧ x ∉ s.st) := by
   rcases hx with e | ⟨h1, h2, h3⟩
   ·exact .inr (.inl e)
   ·by_cases e : x = i
    ·exact .inl e
    ·rw [hst] at h1 h3
     cases hmx : at0 s.met x
     ·exact absurd (fold_new (nxtL p i) (s.met, st) x h1 hmx) h3
     ·refine .inr (.inr ⟨rfl, h2, fun hin => ?_⟩)
      rw [hs] at hin
      rcases List.mem_append.1 hin with h4 | h4
      ·exact h3 (fold_st (nxtL p i) (s.met, st) x h4)
      ·exact e (by simpa using h4)
  rw [hst]
  dsimp only
  rcases hx2 with rfl | hx2
  ·omega
  ·have := ha x hx2
   omega
 all_goals rw [hst]; dsimp only
 ·rcases Nat.le_total s.t (i / p.cols) with h1 | h1
  ·rw [Nat.min_eq_left h1]; exact ht
  ·rw [Nat.min_eq_right h1]; exact ⟨i, hCi, rfl⟩
 ·rcases Nat.le_total s.b (i / p.cols) with h1 | h1
  ·rw [Nat.max_eq_right h1]; exact ⟨i, hCi, rfl⟩
  ·rw [Nat.max_eq_left h1]; exact hb
 ·rcases Nat.le_total s.l (i % p.cols) with h1 | h1
  ·rw [Nat.min_eq_left h1]; exact hl
  ·rw [Nat.min_eq_right h1]; exact ⟨i, hCi, rfl⟩
 ·rcases Nat.le_total s.r (i % p.cols) with h1 | h1
  ·rw [Nat.max_eq_right h1]; exact ⟨i, hCi, rfl⟩
  ·rw [Nat.max_eq_left h1]; exact hr
theorem FlB.fin {p : Pl} {F : Df} {m : List Bool} {C : Nat → Prop} {i : Nat} (hm : m.length = p.rows * p.cols) (hC : ∀ x, C x → x < p.rows * p.cols ∧ ∀ y ∈ nxtL p x, C y) : ∀ (k : Nat) (s : Df), fuelD s = k → DfOk p F s → FlD p m C i s → FlB p m C i s → FlB p m C i F := fun k => by
 induction k using Nat.strongRecOn with
 | _ k ih =>
  intro s hk h hf hb
  rcases List.eq_nil_or_concat s.st with he | ⟨st, a, he⟩
  ·obtain rfl := df_end h he
   exact hb
  ·rw [List.concat_eq_append] at he
   obtain ⟨_, _, _, h2, hlt, _⟩ := df_step h he
   exact ih _ (by omega) _ rfl h2 (hf.step he hm hC) (hb.step h hf he hC)
/-- the number of places and the bounds that the search of a cell finds -/
theorem find_box {p : Pl} {m : List Bool} {C : Nat → Prop} {i : Nat} (hl : m.length = p.rows * p.cols) (hi : i < p.rows * p.cols) (hc : C i) (hm : ∀ x, C x → at0 m x = false) (hC : ∀ x, C x → x < p.rows * p.cols ∧ ∀ y ∈ nxtL p x, C y) (hr : ∀ x, C x → Rch p i x) :
  (findD p m i).n + (findD p m i).met.countP (· == false) = m.countP (· == false) ∧ (∀ x, C x → (findD p m i).t ≤ x / p.cols ∧ x / p.cols ≤ (findD p m i).b ∧ (findD p m i).l ≤ x % p.cols ∧ x % p.cols ≤ (findD p m i).r) ∧
  ((∃ x, C x ∧ x / p.cols = (findD p m i).t) ∧ (∃ x, C x ∧ x / p.cols = (findD p m i).b) ∧ (∃ x, C x ∧ x % p.cols = (findD p m i).l) ∧ ∃ x, C x ∧ x % p.cols = (findD p m i).r) := by
 have hs := df_start hl hi (hm i hc)
 have hd := FlD.start (p := p) (hm i hc) (by omega) hc
 obtain ⟨h1, h2⟩ := FlD.fin hl hC _ _ rfl hs hd
 have h3 := FlB.fin hl hC _ _ rfl hs hd (FlB.start (hm i hc) (by omega) hc)
 have h4 := h3.n
 unfold fuelD at h4
 rw [h2] at h4
 refine ⟨by simpa using h4, fun x hx => h3.all x (.inr ⟨(h1.done h2 hm hc (fun x hx => (hC x hx).2) hr x).2 (.inr hx), hm x hx, by rw [h2]; simp⟩), h3.t, h3.b, h3.l, h3.r⟩
end Go.Proofs.Ytjfgklhifhaaoaa
