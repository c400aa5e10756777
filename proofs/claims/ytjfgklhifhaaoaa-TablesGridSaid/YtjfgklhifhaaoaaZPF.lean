/- Tables in plain lists: the lines of a drawn picture, one direction. Conditions: none. -/
import Derived.Test.YtjfgklhifhaaoaaZPA
import Derived.Test.YtjfgklhifhaaoaaZPE
set_option linter.unusedVariables false
set_option linter.unusedSimpArgs false
namespace Go.Proofs.Ytjfgklhifhaaoaa
/-- the edges of bands of t pixels, at least one pixel between two of them -/
structure Edg (e : Nat → Nat) (t m : Nat) : Prop where
 zero : e 0 = 0
 step : ∀ j, j < m → e j + t + 1 ≤ e (j + 1)
theorem Edg.mono {e : Nat → Nat} {t m : Nat} (h : Edg e t m) : ∀ {i j : Nat}, i < j → j ≤ m → e i + t + 1 ≤ e j
 | i, 0, h1, _ => by omega
 | i, j + 1, h1, h2 => by
  have hs := h.step j (by omega)
  by_cases ij : i = j
  ·rw [ij]; exact hs
  ·have := h.mono (show i < j by omega) (by omega); omega
/-- a pixel lies in a band or between two -/
theorem Edg.find {e : Nat → Nat} {t : Nat} : ∀ {m : Nat} (_ : Edg e t m) {y : Nat}, y < e m + t → (∃ j, j ≤ m ∧ e j ≤ y ∧ y < e j + t) ∨ ∃ j, j < m ∧ e j + t ≤ y ∧ y < e (j + 1)
 | 0, h, y, hy => .inl ⟨0, Nat.le_refl _, by rw [h.zero]; omega, hy⟩
 | m + 1, h, y, hy => by
  have h' : Edg e t m := ⟨h.zero, fun j hj => h.step j (by omega)⟩
  by_cases h1 : y < e m + t
  ·rcases Edg.find h' h1 with ⟨j, a, b⟩ | ⟨j, a, b⟩
   ·exact .inl ⟨j, by omega, b⟩
   ·exact .inr ⟨j, by omega, b⟩
  ·by_cases h2 : y < e (m + 1)
   ·exact .inr ⟨m, by omega, by omega, h2⟩
   ·exact .inl ⟨m + 1, Nat.le_refl _, by omega, hy⟩
theorem flatMap_none {α : Type} (f : Nat → List α) : ∀ (n a : Nat), (∀ k, a ≤ k → k < a + n → f k = []) → (List.range (a + n)).flatMap f = (List.range a).flatMap f
 | 0, a, _ => rfl
 | n + 1, a, h => by
  rw [← Nat.add_assoc, List.range_succ, List.flatMap_append, flatMap_none f n a (fun k h1 h2 => h k h1 (by omega))]
  simp [h (a + n) (by omega) (by omega)]
/-- the lines of one direction: each band gives its runs -/
theorem linR_bands {R : Nat → List (Nat × Nat)} {e : Nat → Nat} {B : Nat → List (Nat × Nat)} {t m : Nat} {v : Bool} (ht : 1 ≤ t) (hE : Edg e t m) (h1 : ∀ j, j ≤ m → ∀ y, e j ≤ y → y < e j + t → R y = B j) (h2 : ∀ j, j < m → ∀ y, e j + t ≤ y → y < e (j + 1) → R y = []) :
  linR R (e m + t) v = (List.range (m + 1)).flatMap fun j => (B j).map (mkR v (e j) t) := by
 unfold linR
 obtain ⟨F, hF⟩ : ∃ F : Nat → List Ru, F = fun k => ((R k).filter fun r => decide (k = 0 ∨ r ∉ R (k - 1))).map fun r => mkR v k (endR (fun y => decide (r ∈ R y)) k (e m + t - k) - k) r := ⟨_, rfl⟩
 rw [← hF]
 have hle : ∀ j, j ≤ m → e j ≤ e m := fun j hj => by
  by_cases h : j = m
  ·rw [h]; exact Nat.le_refl _
  ·have := hE.mono (show j < m by omega) (Nat.le_refl _); omega
 have hFe : ∀ j, j ≤ m → F (e j) = (B j).map (mkR v (e j) t) := fun j hj => by
  have e0 := h1 j hj (e j) (Nat.le_refl _) (by omega)
  have e1 : e j = 0 ∨ R (e j - 1) = [] := by
   match j, hj with
   | 0, _ => exact .inl hE.zero
   | j + 1, hj =>
    have := hE.step j (by omega)
    exact .inr (h2 j (by omega) _ (by omega) (by omega))
  rw [hF]
  dsimp only
  rw [e0, List.filter_eq_self.2 (fun r _ => by
   rw [decide_eq_true_iff]
   rcases e1 with h | h
   ·exact .inl h
   ·right; rw [h]; simp)]
  refine List.map_congr_left fun r hr => ?_
  have e2 : endR (fun y => decide (r ∈ R y)) (e j) (e m + t - e j) = e j + t := by
   have := hle j hj
   refine endR_uni (by omega) (by omega) (fun y g1 g2 => decide_eq_true (by rw [h1 j hj y g1 g2]; exact hr)) (fun g => ?_)
   by_cases hjm : j = m
   ·subst hjm; omega
   ·have := hE.step j (by omega)
    rw [decide_eq_false_iff_not, h2 j (by omega) _ (Nat.le_refl _) (by omega)]; simp
  rw [e2, Nat.add_sub_cancel_left]
 have hFm : ∀ j, j ≤ m → ∀ k, e j < k → k < e j + t → F k = [] := fun j hj k g1 g2 => by
  rw [hF]
  dsimp only
  rw [List.filter_eq_nil_iff.2, List.map_nil]
  intro r hr
  rw [h1 j hj k (by omega) g2] at hr
  rw [decide_eq_true_iff, h1 j hj (k - 1) (by omega) (by omega)]
  rintro (h | h)
  ·omega
  ·exact h hr
 have hFg : ∀ j, j < m → ∀ k, e j + t ≤ k → k < e (j + 1) → F k = [] := fun j hj k g1 g2 => by
  rw [hF]
  dsimp only
  rw [h2 j hj k g1 g2]; rfl
 have band : ∀ j, j ≤ m → (List.range (e j + t)).flatMap F = (List.range (e j)).flatMap F ++ (B j).map (mkR v (e j) t) := fun j hj => by
  have := flatMap_none F (t - 1) (e j + 1) (fun k g1 g2 => hFm j hj k (by omega) (by omega))
  rw [show e j + 1 + (t - 1) = e j + t by omega] at this
  rw [this, List.range_succ, List.flatMap_append, ← hFe j hj]; simp
 have main : ∀ j, j ≤ m → (List.range (e j + t)).flatMap F = (List.range (j + 1)).flatMap fun j => (B j).map (mkR v (e j) t) := by
  intro j
  induction j with
  | zero =>
   intro hj
   rw [band 0 hj, hE.zero]; simp [hE.zero]
  | succ j ih =>
   intro hj
   rw [band (j + 1) hj, List.range_succ (n := j + 1), List.flatMap_append, ← ih (by omega)]
   have hs := hE.step j (by omega)
   have := flatMap_none F (e (j + 1) - (e j + t)) (e j + t) (fun k g1 g2 => hFg j (by omega) k g1 (by omega))
   rw [show e j + t + (e (j + 1) - (e j + t)) = e (j + 1) by omega] at this
   rw [this]; simp
 exact main m (Nat.le_refl _)
/-- runs are told by their members -/
theorem runL_is {p : Nat → Bool} {w k : Nat} {L : List (Nat × Nat)} (hs : L.Pairwise fun r s => r.1 < s.1) (h : ∀ r, r ∈ runL p w k ↔ r ∈ L) : runL p w k = L := by
 have hn : ∀ {M : List (Nat × Nat)}, (M.Pairwise fun r s => r.1 < s.1) → M.Nodup := fun h => h.imp fun {a b} hab e => by subst e; omega
 have hp := (List.perm_ext_iff_of_nodup (hn (runL_srt p w k)) (hn hs)).2 h
 exact hp.eq_of_pairwise (fun a b _ _ h1 h2 => absurd h1 (by omega)) (runL_srt p w k) hs
/-- a row without a run that is long enough -/
theorem runL_none {p : Nat → Bool} {w k : Nat} (h : ∀ a, a < w → a + k ≤ w → ∃ x, a ≤ x ∧ x < a + k ∧ p x = false) : runL p w k = [] := by
 refine List.eq_nil_iff_forall_not_mem.2 fun r hr => ?_
 obtain ⟨h1, h2, h3, h4, h5⟩ := mem_runL.1 hr
 obtain ⟨g1, g2⟩ := endR_ge p (w - r.1) r.1
 rw [← h4] at g1 g2
 by_cases hk : k = 0
 ·subst hk
  obtain ⟨x, a, b, _⟩ := h r.1 h1 (by omega)
  omega
 ·obtain ⟨x, a, b, c⟩ := h r.1 h1 (by omega)
  have := endR_in p (w - r.1) r.1 x a (by rw [← h4]; omega)
  rw [c] at this; cases this
/-- a row that is dark but for one gap -/
theorem runL_gap {p : Nat → Bool} {w k s z : Nat} (hk : 1 ≤ k) (hs : 0 < s) (hsz : s < z) (hz : z < w) (hp : ∀ x, x < w → (p x = false ↔ s ≤ x ∧ x < z)) : runL p w k = (if k ≤ s then [(0, s)] else []) ++ (if k ≤ w - z then [(z, w)] else []) := by
 have ht : ∀ x, x < w → ¬ (s ≤ x ∧ x < z) → p x = true := fun x hx h => by
  cases e : p x
  ·exact absurd ((hp x hx).1 e) h
  ·rfl
 have hf : ∀ x, s ≤ x → x < z → p x = false := fun x h1 h2 => (hp x (by omega)).2 ⟨h1, h2⟩
 have e1 : endR p 0 w = s := endR_uni (by omega) (by omega) (fun x _ h => ht x (by omega) (by omega)) (fun _ => hf s (Nat.le_refl _) hsz)
 have e2 : endR p z (w - z) = w := endR_uni (by omega) (by omega) (fun x h1 h2 => ht x h2 (by omega)) (fun h => by omega)
 refine runL_is ?_ fun r => ?_
 ·split <;> split <;> simp <;> omega
 ·rw [mem_runL]
  obtain ⟨a, b⟩ := r
  dsimp only
  constructor
  ·rintro ⟨h1, h2, h3, h4, h5⟩
   have ha : a = 0 ∨ a = z := by
    rcases h3 with h | h
    ·exact .inl h
    ·obtain ⟨q1, q2⟩ := (hp (a - 1) (by omega)).1 h
     by_cases hz2 : a < z
     ·have := hf a (by omega) hz2
      rw [h2] at this; cases this
     ·right; omega
   rcases ha with rfl | rfl
   ·rw [Nat.sub_zero, e1] at h4
    subst h4
    rw [List.mem_append]; left
    rw [if_pos (by omega)]; simp
   ·rw [e2] at h4
    subst h4
    rw [List.mem_append]; right
    rw [if_pos (by omega)]; simp
  ·intro hm
   rw [List.mem_append] at hm
   rcases hm with hm | hm
   ·split at hm
    ·simp only [List.mem_singleton, Prod.mk.injEq] at hm
     obtain ⟨rfl, rfl⟩ := hm
     exact ⟨by omega, ht 0 (by omega) (by omega), .inl rfl, by rw [Nat.sub_zero, e1], by omega⟩
    ·cases hm
   ·split at hm
    ·simp only [List.mem_singleton, Prod.mk.injEq] at hm
     obtain ⟨rfl, rfl⟩ := hm
     exact ⟨by omega, ht _ (by omega) (by omega), .inr (hf _ (by omega) (by omega)), e2.symm, by omega⟩
    ·cases hm
/-- a row that is dark all through -/
theorem runL_all {p : Nat → Bool} {w k : Nat} (hw : 1 ≤ w) (hk : k ≤ w) (hp : ∀ x, x < w → p x = true) : runL p w k = [(0, w)] := by
 have e1 : endR p 0 w = w := endR_uni (by omega) (by omega) (fun x _ h => hp x h) (fun h => by omega)
 refine runL_is (by simp) fun r => ?_
 rw [mem_runL]
 obtain ⟨a, b⟩ := r
 simp only [List.mem_singleton, Prod.mk.injEq]
 constructor
 ·rintro ⟨h1, h2, h3, h4, h5⟩
  rcases h3 with rfl | h
  ·rw [Nat.sub_zero, e1] at h4; exact ⟨rfl, h4⟩
  ·have := hp (a - 1) (by omega)
   rw [h] at this; cases this
 ·rintro ⟨rfl, rfl⟩
  exact ⟨by omega, hp 0 (by omega), .inl rfl, by rw [Nat.sub_zero, e1], by omega⟩
end Go.Proofs.Ytjfgklhifhaaoaa
/- Tables in plain lists: the picture of a table, a rectangle of places cleared, and its lines. Conditions: none. -/
namespace Go.Proofs.Ytjfgklhifhaaoaa
def InB (e : Nat → Nat) (m t y : Nat) : Prop := ∃ j, j ≤ m ∧ e j ≤ y ∧ y < e j + t
theorem Edg.le {e : Nat → Nat} {t m : Nat} (h : Edg e t m) {i j : Nat} (h1 : i ≤ j) (h2 : j ≤ m) : e i ≤ e j := by
 by_cases ij : i = j
 ·rw [ij]; exact Nat.le_refl _
 ·have := h.mono (show i < j by omega) h2; omega
theorem Edg.gap {e : Nat → Nat} {t m j y : Nat} (h : Edg e t m) (hj : j < m) (h1 : e j + t ≤ y) (h2 : y < e (j + 1)) : ¬ InB e m t y := by
 rintro ⟨i, hi, h3, h4⟩
 rcases Nat.lt_or_ge j i with g | g
 ·have := h.le (show j + 1 ≤ i by omega) hi; omega
 ·have := h.le g (show j ≤ m by omega); omega
/-- a place between two edges: of which bands -/
theorem Edg.cut {e : Nat → Nat} {t m j y a0 a1 : Nat} (h : Edg e t m) (hj : j ≤ m) (h1 : e j ≤ y) (h2 : y < e j + t) (ha : a0 ≤ a1) (hm : a1 < m) : (e a0 + t ≤ y ∧ y < e (a1 + 1)) ↔ a0 < j ∧ j ≤ a1 := by
 constructor
 ·rintro ⟨g1, g2⟩
  constructor
  ·rcases Nat.lt_or_ge a0 j with g | g
   ·exact g
   ·have := h.le g (show a0 ≤ m by omega); omega
  ·rcases Nat.lt_or_ge a1 j with g | g
   ·have := h.le (show a1 + 1 ≤ j by omega) hj; omega
   ·exact g
 ·rintro ⟨g1, g2⟩
  have k1 := h.mono g1 hj
  have k2 := h.mono (show j < a1 + 1 by omega) (by omega)
  omega
structure Pic (p : Nat → Nat → Bool) (e g : Nat → Nat) (t m n : Nat) (sp : Bool) (a0 a1 b0 b1 : Nat) : Prop where
 t1 : 1 ≤ t
 eE : Edg e t m
 gE : Edg g t n
 m1 : 1 ≤ m
 n1 : 1 ≤ n
 cut : sp = true → ((a0 ≤ a1 ∧ a1 < m) ∧ b0 ≤ b1 ∧ b1 < n) ∧ (a0 < a1 → ¬ (b0 = 0 ∧ b1 + 1 = n)) ∧ (b0 < b1 → ¬ (a0 = 0 ∧ a1 + 1 = m))
 px : ∀ y x, y < e m + t → x < g n + t → (p y x = true ↔ (InB e m t y ∨ InB g n t x) ∧ ¬ (sp = true ∧ (e a0 + t ≤ y ∧ y < e (a1 + 1)) ∧ g b0 + t ≤ x ∧ x < g (b1 + 1)))
section
variable {p : Nat → Nat → Bool} {e g : Nat → Nat} {t m n a0 a1 b0 b1 : Nat} {sp : Bool}
theorem Pic.swap (h : Pic p e g t m n sp a0 a1 b0 b1) : Pic (fun x y => p y x) g e t n m sp b0 b1 a0 a1 := by
 refine ⟨h.t1, h.gE, h.eE, h.n1, h.m1, fun hs => ?_, fun y x hy hx => ?_⟩
 ·obtain ⟨⟨c1, c2⟩, c3, c4⟩ := h.cut hs
  exact ⟨⟨c2, c1⟩, c4, c3⟩
 ·rw [h.px x y hx hy]
  constructor
  ·rintro ⟨q1, q2⟩
   exact ⟨q1.symm, fun q => q2 ⟨q.1, q.2.2, q.2.1⟩⟩
  ·rintro ⟨q1, q2⟩
   exact ⟨q1.symm, fun q => q2 ⟨q.1, q.2.2, q.2.1⟩⟩
/-- the runs of a band -/
def bandR (g : Nat → Nat) (t n : Nat) (sp : Bool) (a0 a1 b0 b1 j : Nat) : List (Nat × Nat) :=
 if sp = true ∧ a0 < j ∧ j ≤ a1 then (if 0 < b0 then [(0, g b0 + t)] else []) ++ (if b1 + 1 < n then [(g (b1 + 1), g n + t)] else []) else [(0, g n + t)]
theorem Pic.band (h : Pic p e g t m n sp a0 a1 b0 b1) {j y : Nat} (hj : j ≤ m) (h1 : e j ≤ y) (h2 : y < e j + t) : runL (p y) (g n + t) (t + 1) = bandR g t n sp a0 a1 b0 b1 j := by
 have hyH : y < e m + t := by have := h.eE.le hj (Nat.le_refl _); omega
 have hin : InB e m t y := ⟨j, hj, h1, h2⟩
 have ht := h.t1
 have h01 := h.gE.mono (show 0 < n from h.n1) (Nat.le_refl _)
 rw [h.gE.zero] at h01
 unfold bandR
 by_cases hc : sp = true ∧ a0 < j ∧ j ≤ a1
 ·rw [if_pos hc]
  obtain ⟨⟨⟨c1, c2⟩, c3, c4⟩, c5, c6⟩ := h.cut hc.1
  have hcy := (h.eE.cut hj h1 h2 c1 c2).2 hc.2
  have k1 := h.gE.mono (show b0 < b1 + 1 by omega) (by omega)
  have k2 := h.gE.le (show b1 + 1 ≤ n by omega) (Nat.le_refl _)
  have e1 : (t + 1 ≤ g b0 + t) ↔ 0 < b0 := by
   constructor
   ·intro q
    rcases Nat.eq_zero_or_pos b0 with r | r
    ·subst r; rw [h.gE.zero] at q; omega
    ·exact r
   ·intro q
    have := h.gE.mono q (by omega); rw [h.gE.zero] at this; omega
  have e2 : (t + 1 ≤ g n + t - g (b1 + 1)) ↔ b1 + 1 < n := by
   constructor
   ·intro q
    rcases Nat.lt_or_ge (b1 + 1) n with r | r
    ·exact r
    ·have : b1 + 1 = n := by omega
     rw [this] at q; omega
   ·intro q
    have := h.gE.mono q (Nat.le_refl _); omega
  rw [runL_gap (s := g b0 + t) (z := g (b1 + 1)) (by omega) (by omega) (by omega) (by omega) (fun x hx => ?_)]
  ·simp only [e1, e2]
  ·have := h.px y x hyH hx
   rw [← Bool.not_eq_true, this]
   constructor
   ·intro q
    exact Classical.byContradiction fun r => q ⟨.inl hin, fun u => r u.2.2⟩
   ·intro q u
    exact u.2 ⟨hc.1, hcy, q⟩
 ·rw [if_neg hc]
  refine runL_all (by omega) (by omega) fun x hx => ?_
  rw [h.px y x hyH hx]
  refine ⟨.inl hin, fun u => hc ⟨u.1, ?_⟩⟩
  obtain ⟨⟨⟨c1, c2⟩, _⟩, _⟩ := h.cut u.1
  exact (h.eE.cut hj h1 h2 c1 c2).1 u.2.1
theorem Pic.gap (h : Pic p e g t m n sp a0 a1 b0 b1) {j y : Nat} (hj : j < m) (h1 : e j + t ≤ y) (h2 : y < e (j + 1)) : runL (p y) (g n + t) (t + 1) = [] := by
 have hyH : y < e m + t := by have := h.eE.le (show j + 1 ≤ m by omega) (Nat.le_refl _); omega
 have hni := h.eE.gap hj h1 h2
 have hno : ∀ x, x < g n + t → ¬ InB g n t x → p y x = false := fun x hx q => by
  rw [← Bool.not_eq_true, h.px y x hyH hx]
  rintro ⟨r | r, _⟩
  ·exact hni r
  ·exact q r
 refine runL_none fun a ha hk => ?_
 rcases h.gE.find ha with ⟨i, q1, q2, q3⟩ | ⟨i, q1, q2, q3⟩
 ·by_cases hin : i = n
  ·subst hin; omega
  ·have hs := h.gE.step i (by omega)
   have := h.gE.le (show i + 1 ≤ n by omega) (Nat.le_refl _)
   exact ⟨g i + t, by omega, by omega, hno _ (by omega) (h.gE.gap (show i < n by omega) (Nat.le_refl _) (by omega))⟩
 ·exact ⟨a, Nat.le_refl _, by omega, hno _ ha (h.gE.gap q1 q2 q3)⟩
theorem Pic.lines (h : Pic p e g t m n sp a0 a1 b0 b1) (v : Bool) : linR (fun y => runL (p y) (g n + t) (t + 1)) (e m + t) v = (List.range (m + 1)).flatMap fun j => (bandR g t n sp a0 a1 b0 b1 j).map (mkR v (e j) t) :=
 linR_bands h.t1 h.eE (fun j hj y h1 h2 => h.band hj h1 h2) (fun j hj y h1 h2 => h.gap hj h1 h2)
end
end Go.Proofs.Ytjfgklhifhaaoaa
/- Tables in plain lists: the bands and spans of a drawn picture's lines. Conditions: none. -/
namespace Go.Proofs.Ytjfgklhifhaaoaa
/-- bands of t pixels -/
def BdN (e : Nat → Nat) (t m : Nat) : List (Int × Int) := (List.range (m + 1)).map fun j => ((e j : Int), (t : Int))
theorem BdN_len (e : Nat → Nat) (t m : Nat) : (BdN e t m).length = m + 1 := by simp [BdN]
theorem BdN_get {e : Nat → Nat} {t m j : Nat} (h : j < (BdN e t m).length) : (BdN e t m)[j] = ((e j : Int), (t : Int)) := by simp [BdN]
theorem BdN_mem {e : Nat → Nat} {t m : Nat} {x : Int × Int} : x ∈ BdN e t m ↔ ∃ j, j ≤ m ∧ x = ((e j : Int), (t : Int)) := by
 unfold BdN
 rw [List.mem_map]
 constructor
 ·rintro ⟨j, hj, rfl⟩
  rw [List.mem_range] at hj
  exact ⟨j, by omega, rfl⟩
 ·rintro ⟨j, hj, rfl⟩
  exact ⟨j, List.mem_range.2 (by omega), rfl⟩
theorem BdN_sep {e : Nat → Nat} {t m : Nat} (h : Edg e t m) : SepB (BdN e t m) := by
 unfold SepB
 rw [List.pairwise_iff_getElem]
 intro i j hi hj hij
 rw [BdN_get hi, BdN_get hj]
 rw [BdN_len] at hj
 have := h.mono hij (by omega)
 dsimp only
 omega
theorem BdN_st {e : Nat → Nat} {t m : Nat} (h : Edg e t m) : StB (BdN e t m) := by
 refine (BdN_sep h).imp_of_mem ?_
 intro a b ha _ hab
 obtain ⟨j, _, rfl⟩ := BdN_mem.1 ha
 dsimp only at hab ⊢
 omega
theorem sep_apt : ∀ {L : List (Int × Int)}, SepB L → aptL L = true
 | [], _ => rfl
 | [a], _ => rfl
 | a :: b :: r, h => by
  unfold SepB at h
  obtain ⟨h1, h2⟩ := List.pairwise_cons.1 h
  unfold aptL
  rw [decide_eq_true (h1 b (List.mem_cons_self ..)), sep_apt h2]; rfl
theorem BdN_apt {e : Nat → Nat} {t m : Nat} (h : Edg e t m) (hm : 1 ≤ m) : aptE (BdN e t m) = true := by
 unfold aptE
 rw [sep_apt (BdN_sep h), BdN_len, decide_eq_true (by omega)]; rfl
theorem st_uni {l m : List (Int × Int)} (hl : StB l) (hm : StB m) (h : ∀ x, x ∈ l ↔ x ∈ m) : l = m := by
 have hn : ∀ {M : List (Int × Int)}, StB M → M.Nodup := fun h => h.imp fun {a b} hab e => by subst e; omega
 exact ((List.perm_ext_iff_of_nodup (hn hl) (hn hm)).2 h).eq_of_pairwise (fun a b _ _ h1 h2 => absurd h1 (by omega)) hl hm
theorem BdN_idx {e : Nat → Nat} {t m j : Nat} (h : Edg e t m) (hj : j ≤ m) : idxP (fun b => decide (b = ((e j : Int), (t : Int)))) (BdN e t m) = (j : Int) := by
 have hl : j < (BdN e t m).length := by rw [BdN_len]; omega
 refine idxP_at hl (by rw [BdN_get hl]; simp) fun i hi hij => ?_
 have := h.mono hij hj
 rw [BdN_get hi, decide_eq_false_iff_not]
 intro q
 injection q with q1 q2
 omega
theorem BdN_idf {e : Nat → Nat} {t m j : Nat} {x : Int} (h : Edg e t m) (hj : j ≤ m) (hx : x = (e j : Int)) : idxP (fun b => decide (b.1 = x)) (BdN e t m) = (j : Int) := by
 have hl : j < (BdN e t m).length := by rw [BdN_len]; omega
 refine idxP_at hl (by rw [BdN_get hl, hx]; simp) fun i hi hij => ?_
 have := h.mono hij hj
 rw [BdN_get hi, decide_eq_false_iff_not]
 dsimp only
 omega
theorem BdN_ido {e : Nat → Nat} {t m j : Nat} {x : Int} (h : Edg e t m) (hj : j ≤ m) (hx : x = (e j : Int) + (t : Int)) : idxP (fun b => decide (b.1 + b.2 = x)) (BdN e t m) = (j : Int) := by
 have hl : j < (BdN e t m).length := by rw [BdN_len]; omega
 refine idxP_at hl (by rw [BdN_get hl, hx]; simp) fun i hi hij => ?_
 have := h.mono hij hj
 rw [BdN_get hi, decide_eq_false_iff_not]
 dsimp only
 omega
section
variable {p : Nat → Nat → Bool} {e g : Nat → Nat} {t m n a0 a1 b0 b1 : Nat} {sp : Bool}
/-- the lines of one direction -/
def linB (e g : Nat → Nat) (t m n : Nat) (sp : Bool) (a0 a1 b0 b1 : Nat) (v : Bool) : List Ru := (List.range (m + 1)).flatMap fun j => (bandR g t n sp a0 a1 b0 b1 j).map (mkR v (e j) t)
/-- the spans of a band -/
def spnR (n : Nat) (sp : Bool) (a0 a1 b0 b1 j : Nat) : List Sp :=
 if sp = true ∧ a0 < j ∧ j ≤ a1 then (if 0 < b0 then [⟨j, 0, b0⟩] else []) ++ (if b1 + 1 < n then [⟨j, b1 + 1, n⟩] else []) else [⟨j, 0, n⟩]
theorem linB_v {v : Bool} {r : Ru} (h : r ∈ linB e g t m n sp a0 a1 b0 b1 v) : r.v = v := by
 unfold linB at h
 obtain ⟨j, _, hr⟩ := List.mem_flatMap.1 h
 obtain ⟨x, _, rfl⟩ := List.mem_map.1 hr
 rfl
theorem linB_of {v : Bool} {e' g' : Nat → Nat} {m' n' a0' a1' b0' b1' : Nat} : ofV (linB e g t m n sp a0 a1 b0 b1 false ++ linB e' g' t m' n' sp a0' a1' b0' b1' true) v = if v then linB e' g' t m' n' sp a0' a1' b0' b1' true else linB e g t m n sp a0 a1 b0 b1 false := by
 unfold ofV
 rw [List.filter_append]
 cases v
 ·rw [List.filter_eq_self.2 (fun r hr => by simp [linB_v hr]), List.filter_eq_nil_iff.2 (fun r hr => by simp [linB_v hr]), List.append_nil]; rfl
 ·rw [List.filter_eq_nil_iff.2 (fun r hr => by simp [linB_v hr]), List.filter_eq_self.2 (fun r hr => by simp [linB_v hr])]; rfl
theorem Pic.bandne (h : Pic p e g t m n sp a0 a1 b0 b1) (j : Nat) : bandR g t n sp a0 a1 b0 b1 j ≠ [] := by
 unfold bandR
 split
 ·rename_i hc
  obtain ⟨_, c5, _⟩ := h.cut hc.1
  have := c5 (by omega)
  by_cases q : 0 < b0
  ·rw [if_pos q]; simp
  ·rw [if_neg q, if_pos (by
    obtain ⟨⟨⟨c1, c2⟩, c3, c4⟩, _⟩ := h.cut hc.1
    omega)]; simp
 ·simp
/-- what the bands of these lines are -/
theorem Pic.bands (h : Pic p e g t m n sp a0 a1 b0 b1) {l : List Ru} {v : Bool} (hl : ofV l v = linB e g t m n sp a0 a1 b0 b1 v) : bndR l v = BdN e t m := by
 have hm : ∀ x, x ∈ bndL l v ↔ x ∈ BdN e t m := fun x => by
  unfold bndL
  show x ∈ (ofV l v).map _ ↔ _
  rw [hl, BdN_mem, List.mem_map]
  unfold linB
  constructor
  ·rintro ⟨r, hr, rfl⟩
   obtain ⟨j, hj, hr⟩ := List.mem_flatMap.1 hr
   obtain ⟨q, _, rfl⟩ := List.mem_map.1 hr
   rw [List.mem_range] at hj
   exact ⟨j, by omega, rfl⟩
  ·rintro ⟨j, hj, rfl⟩
   obtain ⟨q, hq⟩ := List.exists_mem_of_ne_nil _ (h.bandne j)
   exact ⟨mkR v (e j) t q, List.mem_flatMap.2 ⟨j, List.mem_range.2 (by omega), List.mem_map.2 ⟨q, hq, rfl⟩⟩, rfl⟩
 refine st_uni (bndR_st fun x hx y hy hxy => ?_) (BdN_st h.eE) fun x => by rw [bndR_mem, hm]
 obtain ⟨i, _, rfl⟩ := BdN_mem.1 ((hm x).1 hx)
 obtain ⟨j, _, rfl⟩ := BdN_mem.1 ((hm y).1 hy)
 dsimp only at hxy
 rw [hxy]
theorem Pic.span (h : Pic p e g t m n sp a0 a1 b0 b1) {v : Bool} {j : Nat} (hj : j ≤ m) : ((bandR g t n sp a0 a1 b0 b1 j).map (mkR v (e j) t)).map (spnO (BdN e t m) (BdN g t n)) = spnR n sp a0 a1 b0 b1 j := by
 have key : ∀ (s z i k : Nat), s = g i → z = g k + t → i ≤ n → k ≤ n → spnO (BdN e t m) (BdN g t n) (mkR v (e j) t (s, z)) = ⟨j, i, k⟩ := fun s z i k hs hz hi hk => by
  unfold spnO spnI mkR
  dsimp only
  rw [BdN_idx h.eE hj, BdN_idf h.gE hi (by omega), BdN_ido h.gE hk (by omega)]
  simp
 unfold bandR spnR
 by_cases hc : sp = true ∧ a0 < j ∧ j ≤ a1
 ·rw [if_pos hc, if_pos hc]
  obtain ⟨⟨⟨c1, c2⟩, c3, c4⟩, _⟩ := h.cut hc.1
  rw [List.map_append, List.map_append]
  congr 1
  ·split
   ·simp only [List.map_cons, List.map_nil]
    rw [key 0 (g b0 + t) 0 b0 h.gE.zero.symm rfl (by omega) (by omega)]
   ·rfl
  ·split
   ·simp only [List.map_cons, List.map_nil]
    rw [key (g (b1 + 1)) (g n + t) (b1 + 1) n rfl rfl (by omega) (by omega)]
   ·rfl
 ·rw [if_neg hc, if_neg hc]
  simp only [List.map_cons, List.map_nil]
  rw [key 0 (g n + t) 0 n h.gE.zero.symm rfl (by omega) (by omega)]
/-- the spans of these lines -/
theorem Pic.spans (h : Pic p e g t m n sp a0 a1 b0 b1) {l : List Ru} {v : Bool} (hl : ofV l v = linB e g t m n sp a0 a1 b0 b1 v) : spnL l v (BdN e t m) (BdN g t n) = (List.range (m + 1)).flatMap fun j => spnR n sp a0 a1 b0 b1 j := by
 unfold spnL
 rw [hl]
 unfold linB
 rw [List.map_flatMap]
 have : ∀ (L : List Nat), (∀ j ∈ L, j ≤ m) → (L.flatMap fun j => ((bandR g t n sp a0 a1 b0 b1 j).map (mkR v (e j) t)).map (spnO (BdN e t m) (BdN g t n))) = L.flatMap fun j => spnR n sp a0 a1 b0 b1 j := fun L => by
  induction L with
  | nil => intro _; rfl
  | cons a L ih =>
   intro hL
   rw [List.flatMap_cons, List.flatMap_cons, h.span (hL a (List.mem_cons_self ..)), ih fun j hj => hL j (List.mem_cons_of_mem _ hj)]
 exact this _ fun j hj => by rw [List.mem_range] at hj; omega
theorem spnR_n {j : Nat} {s : Sp} (h : s ∈ spnR n sp a0 a1 b0 b1 j) : s.n = j := by
 unfold spnR at h
 split at h
 ·rw [List.mem_append] at h
  rcases h with h | h
  ·split at h
   ·rw [List.mem_singleton] at h; rw [h]
   ·cases h
  ·split at h
   ·rw [List.mem_singleton] at h; rw [h]
   ·cases h
 ·rw [List.mem_singleton] at h; rw [h]
end
end Go.Proofs.Ytjfgklhifhaaoaa
/- Tables in plain lists: the frame of a drawn picture's lines. Conditions: none. -/
namespace Go.Proofs.Ytjfgklhifhaaoaa
section
variable {p : Nat → Nat → Bool} {e g : Nat → Nat} {t m n a0 a1 b0 b1 : Nat} {sp : Bool}
theorem Pic.spanA (h : Pic p e g t m n sp a0 a1 b0 b1) {l : List Ru} {v : Bool} (hl : ofV l v = linB e g t m n sp a0 a1 b0 b1 v) : spnA l v (BdN e t m) (BdN g t n) = true := by
 unfold spnA
 rw [hl, List.all_eq_true]
 intro r hr
 unfold linB at hr
 obtain ⟨j, hj, hr⟩ := List.mem_flatMap.1 hr
 rw [List.mem_range] at hj
 obtain ⟨x, hx, rfl⟩ := List.mem_map.1 hr
 have key : ∀ (s z i k : Nat), s = g i → z = g k + t → i ≤ n → k ≤ n → i < k → spnB (BdN e t m) (BdN g t n) (mkR v (e j) t (s, z)) = true := fun s z i k hs hz hi hk hik => by
  unfold spnB spnI mkR
  dsimp only
  rw [BdN_idf h.gE hi (by omega), BdN_ido h.gE hk (by omega), decide_eq_true_iff]
  omega
 have hn := h.n1
 unfold bandR at hx
 split at hx
 ·rename_i hc
  obtain ⟨⟨⟨c1, c2⟩, c3, c4⟩, _⟩ := h.cut hc.1
  rw [List.mem_append] at hx
  rcases hx with hx | hx
  ·split at hx
   ·rw [List.mem_singleton] at hx; rw [hx]
    exact key _ _ 0 b0 h.gE.zero.symm rfl (by omega) (by omega) (by omega)
   ·cases hx
  ·split at hx
   ·rw [List.mem_singleton] at hx; rw [hx]
    exact key _ _ (b1 + 1) n rfl rfl (by omega) (by omega) (by omega)
   ·cases hx
 ·rw [List.mem_singleton] at hx; rw [hx]
  exact key _ _ 0 n h.gE.zero.symm rfl (by omega) (by omega) (by omega)
/-- all spans -/
def spnQ (m n : Nat) (sp : Bool) (a0 a1 b0 b1 : Nat) : List Sp := (List.range (m + 1)).flatMap fun j => spnR n sp a0 a1 b0 b1 j
theorem Pic.disj (h : Pic p e g t m n sp a0 a1 b0 b1) : (spnQ m n sp a0 a1 b0 b1).Pairwise Disj := by
 unfold spnQ
 rw [List.pairwise_flatMap]
 constructor
 ·intro j _
  unfold spnR
  split
  ·rename_i hc
   obtain ⟨⟨⟨c1, c2⟩, c3, c4⟩, _⟩ := h.cut hc.1
   split <;> split <;> simp [Disj]
   omega
  ·simp
 ·refine List.pairwise_lt_range.imp ?_
  intro i j hij x hx y hy
  unfold Disj
  rw [spnR_n hx, spnR_n hy]
  omega
theorem Pic.cnt (h : Pic p e g t m n sp a0 a1 b0 b1) : cntO (m + 1) (spnQ m n sp a0 a1 b0 b1) = 2 := by
 have hm := h.m1
 have one : ∀ j, j = 0 ∨ j = m → spnR n sp a0 a1 b0 b1 j = [⟨j, 0, n⟩] := fun j hj => by
  unfold spnR
  rw [if_neg]
  rintro ⟨h1, h2, h3⟩
  obtain ⟨⟨⟨c1, c2⟩, c3, c4⟩, _⟩ := h.cut h1
  omega
 have c0 : ∀ j, j = 0 ∨ j = m → (spnR n sp a0 a1 b0 b1 j).countP (outS (m + 1)) = 1 := fun j hj => by
  rw [one j hj]
  have : outS (m + 1) ⟨j, 0, n⟩ = true := by unfold outS; rw [decide_eq_true_iff]; dsimp only; omega
  simp [this]
 have cz : ∀ j, 0 < j → j < m → (spnR n sp a0 a1 b0 b1 j).countP (outS (m + 1)) = 0 := fun j h1 h2 => by
  rw [List.countP_eq_zero]
  intro s hs
  unfold outS
  rw [decide_eq_true_iff, spnR_n hs]
  omega
 have main : ∀ k, k < m → ((List.range (k + 1)).flatMap fun j => spnR n sp a0 a1 b0 b1 j).countP (outS (m + 1)) = 1 := by
  intro k
  induction k with
  | zero => intro _; have := c0 0 (.inl rfl); simpa using this
  | succ k ih =>
   intro hk
   rw [List.range_succ, List.flatMap_append, List.countP_append, ih (by omega)]
   have := cz (k + 1) (by omega) hk
   simpa using this
 unfold cntO spnQ
 rw [List.range_succ, List.flatMap_append, List.countP_append]
 have h1 := main (m - 1) (by omega)
 rw [show m - 1 + 1 = m by omega] at h1
 rw [h1]
 have := c0 m (.inr rfl)
 simp [this]
theorem Pic.cv (h : Pic p e g t m n sp a0 a1 b0 b1) {j i : Nat} (hj : j ≤ m) (hi : i < n) : Cv (spnQ m n sp a0 a1 b0 b1) j i ↔ ¬ (sp = true ∧ (a0 < j ∧ j ≤ a1) ∧ b0 ≤ i ∧ i ≤ b1) := by
 have e1 : Cv (spnQ m n sp a0 a1 b0 b1) j i ↔ ∃ s ∈ spnR n sp a0 a1 b0 b1 j, s.f ≤ i ∧ i < s.o := by
  unfold Cv spnQ
  constructor
  ·rintro ⟨s, hs, h1, h2⟩
   obtain ⟨k, _, hs⟩ := List.mem_flatMap.1 hs
   have := spnR_n hs
   obtain rfl : k = j := by omega
   exact ⟨s, hs, h2⟩
  ·rintro ⟨s, hs, h2⟩
   exact ⟨s, List.mem_flatMap.2 ⟨j, List.mem_range.2 (by omega), hs⟩, spnR_n hs, h2⟩
 rw [e1]
 unfold spnR
 by_cases hc : sp = true ∧ a0 < j ∧ j ≤ a1
 ·rw [if_pos hc]
  obtain ⟨⟨⟨c1, c2⟩, c3, c4⟩, _⟩ := h.cut hc.1
  constructor
  ·rintro ⟨s, hs, h1, h2⟩ q
   rw [List.mem_append] at hs
   rcases hs with hs | hs
   ·split at hs
    ·rw [List.mem_singleton] at hs; rw [hs] at h1 h2; dsimp only at h1 h2; omega
    ·cases hs
   ·split at hs
    ·rw [List.mem_singleton] at hs; rw [hs] at h1 h2; dsimp only at h1 h2; omega
    ·cases hs
  ·intro q
   rcases Nat.lt_or_ge i b0 with r | r
   ·exact ⟨⟨j, 0, b0⟩, List.mem_append_left _ (by rw [if_pos (by omega)]; simp), Nat.zero_le _, r⟩
   ·have hb : b1 < i := by
     rcases Nat.lt_or_ge b1 i with r2 | r2
     ·exact r2
     ·exact absurd ⟨hc.1, hc.2, r, r2⟩ q
    exact ⟨⟨j, b1 + 1, n⟩, List.mem_append_right _ (by rw [if_pos (by omega)]; simp), by dsimp only; omega, hi⟩
 ·rw [if_neg hc]
  constructor
  ·intro _ q
   exact hc ⟨q.1, q.2.1⟩
  ·intro _
   exact ⟨⟨j, 0, n⟩, by simp, Nat.zero_le _, hi⟩
end
theorem ful_of {M : List (List Bool)} {k K : Nat} (hr : (M.getD k []).length = K) (h : ∀ i, i < K → mt2 M k i = true) : fulB (M.getD k []) = true := by
 unfold fulB
 rw [List.all_eq_true]
 intro b hb
 obtain ⟨i, hi, rfl⟩ := List.getElem_of_mem hb
 have := h i (by omega)
 unfold mt2 at this
 rw [List.getD, List.getElem?_eq_getElem hi] at this
 simpa using this
/-- the frame of the picture -/
theorem pic_frm {p q : Nat → Nat → Bool} {e g : Nat → Nat} {t m n a0 a1 b0 b1 : Nat} {sp : Bool} (hp : Pic p e g t m n sp a0 a1 b0 b1) (hq : Pic q g e t n m sp b0 b1 a0 a1) {l : List Ru} (hl : l = linB e g t m n sp a0 a1 b0 b1 false ++ linB g e t n m sp b0 b1 a0 a1 true) :
  (bndR l false = BdN e t m ∧ bndR l true = BdN g t n) ∧ ∃ s, frmR l = some s ∧ (∀ j i, j ≤ m → i < n → (mt2 s.O j i = true ↔ ¬ (sp = true ∧ (a0 < j ∧ j ≤ a1) ∧ b0 ≤ i ∧ i ≤ b1))) ∧ ∀ j i, j ≤ n → i < m → (mt2 s.S j i = true ↔ ¬ (sp = true ∧ (b0 < j ∧ j ≤ b1) ∧ a0 ≤ i ∧ i ≤ a1)) := by
 have o1 : ofV l false = linB e g t m n sp a0 a1 b0 b1 false := by rw [hl, linB_of]; rfl
 have o2 : ofV l true = linB g e t n m sp b0 b1 a0 a1 true := by rw [hl, linB_of]; rfl
 have eH := hp.bands o1
 have eV := hq.bands o2
 have ht : ∀ {e : Nat → Nat} {m : Nat}, ∀ x ∈ BdN e t m, 1 ≤ x.2 := fun x hx => by
  obtain ⟨j, _, rfl⟩ := BdN_mem.1 hx
  have := hp.t1
  dsimp only
  omega
 have hin : ∀ r ∈ l, (r.a, r.t) ∈ if r.v then BdN g t n else BdN e t m := fun r hr => by
  have : ∀ v, r.v = v → (r.a, r.t) ∈ bndR l v := fun v hv => by
   rw [bndR_mem]
   exact List.mem_map.2 ⟨r, List.mem_filter.2 ⟨hr, by simpa using hv⟩, rfl⟩
  cases hv : r.v
  ·have := this false hv; rw [eH] at this; exact this
  ·have := this true hv; rw [eV] at this; exact this
 have s1 := hp.spans o1
 have s2 := hq.spans o2
 have hgood : Good (BdN e t m) (BdN g t n) l := ⟨⟨hp.spanA o1, by rw [s1]; exact hp.disj⟩, hq.spanA o2, by rw [s2]; exact hq.disj⟩
 obtain ⟨f1, f2⟩ := frm_all (BdN_sep hp.eE) (BdN_sep hp.gE) (BdN_st hp.eE) (BdN_st hp.gE) ht ht hin l.length (Nat.le_refl _)
 rw [List.take_length] at f1 f2
 refine ⟨⟨eH, eV⟩, ?_⟩
 cases hk : frmK (BdN e t m) (BdN g t n) l l.length with
 | none => exact absurd hgood (f1 hk)
 | some s =>
  obtain ⟨_, hO, hS, hn⟩ := f2 s hk
  have hn4 : s.n = 4 := by
   rw [hn, s1, s2, BdN_len, BdN_len]
   have k1 := hp.cnt
   have k2 := hq.cnt
   unfold spnQ at k1 k2
   rw [k1, k2]
  rw [s1] at hO
  rw [s2] at hS
  rw [BdN_len, BdN_len, Nat.add_sub_cancel] at hO hS
  have mO : ∀ j i, j ≤ m → i < n → (mt2 s.O j i = true ↔ ¬ (sp = true ∧ (a0 < j ∧ j ≤ a1) ∧ b0 ≤ i ∧ i ≤ b1)) := fun j i hj hi => (hO.cov j i (by omega) hi).trans (hp.cv hj hi)
  have mS : ∀ j i, j ≤ n → i < m → (mt2 s.S j i = true ↔ ¬ (sp = true ∧ (b0 < j ∧ j ≤ b1) ∧ a0 ≤ i ∧ i ≤ a1)) := fun j i hj hi => (hS.cov j i (by omega) hi).trans (hq.cv hj hi)
  refine ⟨s, ?_, mO, mS⟩
  have hk' : frmL (BdN e t m) (BdN g t n) l = some s := by
   have h1 : frmK (BdN e t m) (BdN g t n) l l.length = frmL (BdN e t m) (BdN g t n) l := by unfold frmK; rw [List.take_length]
   rw [← h1]; exact hk
  have nc : ∀ {c0 c1 k : Nat}, (sp = true → c0 ≤ c1 ∧ c1 < k) → ∀ j, j = 0 ∨ j = k → ¬ (sp = true ∧ (c0 < j ∧ j ≤ c1)) := fun hc j hj q => by
   have := hc q.1
   omega
  have ca : sp = true → a0 ≤ a1 ∧ a1 < m := fun h => (hp.cut h).1.1
  have cb : sp = true → b0 ≤ b1 ∧ b1 < n := fun h => (hp.cut h).1.2
  unfold frmR
  rw [eH, eV, BdN_apt hp.eE hp.m1, BdN_apt hp.gE hp.n1, hk']
  have fin : frmF (BdN e t m) (BdN g t n) s = true := by
   unfold frmF
   rw [BdN_len, BdN_len, Nat.add_sub_cancel, Nat.add_sub_cancel, hn4]
   rw [ful_of (hO.row 0 (by omega)) fun i hi => (mO 0 i (by omega) hi).2 fun q => nc ca 0 (.inl rfl) ⟨q.1, q.2.1⟩,
    ful_of (hO.row m (by omega)) fun i hi => (mO m i (by omega) hi).2 fun q => nc ca m (.inr rfl) ⟨q.1, q.2.1⟩,
    ful_of (hS.row 0 (by omega)) fun i hi => (mS 0 i (by omega) hi).2 fun q => nc cb 0 (.inl rfl) ⟨q.1, q.2.1⟩,
    ful_of (hS.row n (by omega)) fun i hi => (mS n i (by omega) hi).2 fun q => nc cb n (.inr rfl) ⟨q.1, q.2.1⟩]
   rfl
  show (if frmF (BdN e t m) (BdN g t n) s = true then some s else none) = some s
  rw [if_pos fin]
end Go.Proofs.Ytjfgklhifhaaoaa
/- Tables in plain lists: the cells of a drawn picture. Conditions: none. -/
namespace Go.Proofs.Ytjfgklhifhaaoaa
def InS (sp : Bool) (a0 a1 b0 b1 r c : Nat) : Prop := sp = true ∧ (a0 ≤ r ∧ r ≤ a1) ∧ b0 ≤ c ∧ c ≤ b1
instance (sp : Bool) (a0 a1 b0 b1 r c : Nat) : Decidable (InS sp a0 a1 b0 b1 r c) := by unfold InS; infer_instance
/-- the cell of a place, if one begins there -/
def celW (f : Fr) (sp : Bool) (a0 a1 b0 b1 r c : Nat) : List Ce :=
 if InS sp a0 a1 b0 b1 r c then (if r = a0 ∧ c = b0 then [boxC f (ceR a0 b0 (a1 + 1) (b1 + 1))] else []) else [boxC f (ceR r c (r + 1) (c + 1))]
theorem anyQ_f {m : List Bool} {C r re c ce : Nat} (h : ∀ y x, r ≤ y → y < re → c ≤ x → x < ce → at0 m (y * C + x) = false) : anyU m C r re c ce = false := by
 unfold anyU
 rw [List.any_eq_false]
 intro y hy
 rw [List.mem_range'_1] at hy
 rw [Bool.not_eq_true, List.any_eq_false]
 intro x hx
 rw [List.mem_range'_1] at hx
 rw [h y x hy.1 (by omega) hx.1 (by omega)]; simp
theorem pic_cel {f : Fr} {O S : Nat → Nat → Bool} {m n a0 a1 b0 b1 : Nat} {sp : Bool} (hn : 1 ≤ n) (hc : sp = true → (a0 ≤ a1 ∧ a1 < m) ∧ b0 ≤ b1 ∧ b1 < n)
  (hO : ∀ j i, j ≤ m → i < n → (O j i = true ↔ ¬ (sp = true ∧ (a0 < j ∧ j ≤ a1) ∧ b0 ≤ i ∧ i ≤ b1))) (hS : ∀ j i, j ≤ n → i < m → (S j i = true ↔ ¬ (sp = true ∧ (b0 < j ∧ j ≤ b1) ∧ a0 ≤ i ∧ i ≤ a1))) :
  ∀ (k i : Nat) (met : List Bool) (l : List Ce), i + k = m * n → met.length = m * n → (∀ x, x < m * n → (at0 met x = true ↔ x < i ∨ (a0 * n + b0 < i ∧ InS sp a0 a1 b0 b1 (x / n) (x % n)))) →
  celsR f O S m n k i met l = some (l ++ (List.range' i k).flatMap fun x => celW f sp a0 a1 b0 b1 (x / n) (x % n))
 | 0, i, met, l, _, _, _ => by simp [celsR]
 | k + 1, i, met, l, hi, hl, hm => by
  have hiN : i < m * n := by omega
  obtain ⟨r, c, hr, hcn, hic⟩ := pl_split hiN
  have e1 : i / n = r := by rw [hic]; exact pl_div hcn
  have e2 : i % n = c := by rw [hic]; exact pl_mod hcn
  have hmi := hm i hiN
  rw [e1, e2] at hmi
  have hlt : ∀ {r' c' : Nat}, c' < n → (r < r' ∨ r = r' ∧ c < c') → i < r' * n + c' := fun {r' c'} h1 h2 => by
   rw [hic]
   rcases h2 with h2 | ⟨h2, h3⟩
   ·have : (r + 1) * n ≤ r' * n := Nat.mul_le_mul_right _ h2
    rw [Nat.add_mul, Nat.one_mul] at this
    omega
   ·rw [h2]; omega
  have hgt : ∀ {r' c' : Nat}, c' < n → (r' < r ∨ r' = r ∧ c' < c) → r' * n + c' < i := fun {r' c'} h1 h2 => by
   rw [hic]
   rcases h2 with h2 | ⟨h2, h3⟩
   ·have : (r' + 1) * n ≤ r * n := Nat.mul_le_mul_right _ h2
    rw [Nat.add_mul, Nat.one_mul] at this
    omega
   ·rw [h2]; omega
  have hge : ∀ {r' c' : Nat}, c' < n → (r < r' ∨ r = r' ∧ c ≤ c') → i ≤ r' * n + c' := fun {r' c'} h1 h2 => by
   rw [hic]
   rcases h2 with h2 | ⟨h2, h3⟩
   ·have : (r + 1) * n ≤ r' * n := Nat.mul_le_mul_right _ h2
    rw [Nat.add_mul, Nat.one_mul] at this
    omega
   ·rw [h2]; omega
  rw [List.range'_succ, List.flatMap_cons, e1, e2]
  have step : ∀ (re ce : Nat), Rect ⟨m, n, [], []⟩ O S r c re ce → at0 met i = false → (∀ y x, r ≤ y → y < re → c ≤ x → x < ce → at0 met (y * n + x) = false) →
    (∀ x, x < m * n → ((InR n r c re ce x ∨ (x < i ∨ (a0 * n + b0 < i ∧ InS sp a0 a1 b0 b1 (x / n) (x % n)))) ↔ (x < i + 1 ∨ (a0 * n + b0 < i + 1 ∧ InS sp a0 a1 b0 b1 (x / n) (x % n))))) → celW f sp a0 a1 b0 b1 r c = [boxC f (ceR r c re ce)] →
    celsR f O S m n (k + 1) i met l = some (l ++ (celW f sp a0 a1 b0 b1 r c ++ (List.range' (i + 1) k).flatMap fun x => celW f sp a0 a1 b0 b1 (x / n) (x % n))) := fun re ce hR h0 hA hM hW => by
   have hq : celR O S m n r c = some (re, ce) := rect_celR hR
   rw [celsR, if_neg (by rw [h0]; simp), e1, e2, hq]
   dsimp only
   rw [if_neg (by rw [anyQ_f hA]; simp), pic_cel hn hc hO hS k (i + 1) _ _ (by omega) (by rw [pntL_len]; exact hl) (fun x hx => by rw [pnt_at0 (by rw [hl]; exact hx), hm x hx]; exact hM x hx), hW, List.append_assoc]
  by_cases hin : InS sp a0 a1 b0 b1 r c
  ·obtain ⟨⟨c1, c2⟩, c3, c4⟩ := hc hin.1
   have hin2 := hin
   obtain ⟨_, ⟨q1, q2⟩, q3, q4⟩ := hin2
   by_cases hf : r = a0 ∧ c = b0
   ·obtain ⟨rfl, rfl⟩ := hf
    refine step (a1 + 1) (b1 + 1) ?_ ?_ ?_ ?_ (by unfold celW; rw [if_pos hin, if_pos ⟨rfl, rfl⟩])
    ·refine ⟨by omega, by omega, by show a1 + 1 ≤ m; omega, by show b1 + 1 ≤ n; omega, ?_, ?_, ?_, ?_, ?_, ?_⟩
     ·intro y g1 g2; rw [hS c y (by omega) (by omega)]; omega
     ·intro y g1 g2; rw [hS (b1 + 1) y (by omega) (by omega)]; omega
     ·intro y x g1 g2 g3 g4
      rw [← Bool.not_eq_true, hS x y (by omega) (by omega)]
      exact fun h => h ⟨hin.1, by omega, by omega⟩
     ·intro x g1 g2; rw [hO r x (by omega) (by omega)]; omega
     ·intro x g1 g2; rw [hO (a1 + 1) x (by omega) (by omega)]; omega
     ·intro x y g1 g2 g3 g4
      rw [← Bool.not_eq_true, hO y x (by omega) (by omega)]
      exact fun h => h ⟨hin.1, by omega, by omega⟩
    ·rw [← Bool.not_eq_true, hmi]; omega
    ·intro y x g1 g2 g3 g4
     have hx := pl_lt (show y < m by omega) (show x < n by omega)
     have := hge (r' := y) (c' := x) (by omega) (by omega)
     rw [← Bool.not_eq_true, hm _ hx]; omega
    ·intro x hx
     have hs : r * n + c = i := hic.symm
     unfold InR InS
     have hx2 : x = i ∨ x ≠ i := Classical.em _
     constructor
     ·rintro (h | h | h)
      ·right; exact ⟨by omega, hin.1, by omega, by omega⟩
      ·left; omega
      ·omega
     ·rintro (h | h)
      ·by_cases e : x = i
       ·left; rw [e, e1, e2]; omega
       ·right; left; omega
      ·left; obtain ⟨_, _, g2, g3⟩ := h; omega
   ·have h0 : at0 met i = true := hmi.2 (.inr ⟨hgt (by omega) (by omega), hin⟩)
    rw [celsR, if_pos h0, pic_cel hn hc hO hS k (i + 1) met l (by omega) hl (fun x hx => by
     rw [hm x hx]
     have := hgt (r' := a0) (c' := b0) (by omega) (by omega)
     constructor
     ·rintro (h | ⟨h1, h2⟩)
      ·left; omega
      ·right; exact ⟨by omega, h2⟩
     ·rintro (h | ⟨h1, h2⟩)
      ·by_cases e : x = i
       ·right; rw [e, e1, e2]; exact ⟨this, hin⟩
       ·left; omega
      ·right; exact ⟨this, h2⟩)]
    unfold celW
    rw [if_pos hin, if_neg hf, List.nil_append]
  ·have hs : sp = true → ¬ (a0 ≤ r ∧ r ≤ a1 ∧ b0 ≤ c ∧ c ≤ b1) := fun h q => hin ⟨h, by omega, by omega⟩
   refine step (r + 1) (c + 1) ?_ ?_ ?_ ?_ (by unfold celW; rw [if_neg hin])
   ·refine ⟨by omega, by omega, by show r + 1 ≤ m; omega, by show c + 1 ≤ n; omega, ?_, ?_, ?_, ?_, ?_, ?_⟩
    ·intro y g1 g2; rw [hS c y (by omega) (by omega)]; intro q; have := hs q.1; omega
    ·intro y g1 g2; rw [hS (c + 1) y (by omega) (by omega)]; intro q; have := hs q.1; omega
    ·intro y x g1 g2 g3 g4; omega
    ·intro x g1 g2; rw [hO r x (by omega) (by omega)]; intro q; have := hs q.1; omega
    ·intro x g1 g2; rw [hO (r + 1) x (by omega) (by omega)]; intro q; have := hs q.1; omega
    ·intro x y g1 g2 g3 g4; omega
   ·rw [← Bool.not_eq_true, hmi]
    rintro (h | h)
    ·omega
    ·exact hin h.2
   ·intro y x g1 g2 g3 g4
    obtain rfl : y = r := by omega
    obtain rfl : x = c := by omega
    rw [← hic, ← Bool.not_eq_true, hmi]
    rintro (h | h)
    ·omega
    ·exact hin h.2
   ·intro x hx
    have hxi : InR n r c (r + 1) (c + 1) x ↔ x = i := by
     unfold InR
     constructor
     ·intro q
      have := Nat.div_add_mod x n
      rw [Nat.mul_comm] at this
      have q1 : x / n = r := by omega
      have q2 : x % n = c := by omega
      rw [q1, q2] at this
      omega
     ·intro q; rw [q, e1, e2]; omega
    rw [hxi]
    constructor
    ·rintro (h | h | h)
     ·left; omega
     ·left; omega
     ·right; exact ⟨by omega, h.2⟩
    ·rintro (h | h)
     ·by_cases e : x = i
      ·exact .inl e
      ·right; left; omega
     ·obtain ⟨h1, h2⟩ := h
      by_cases e : a0 * n + b0 < i
      ·right; right; exact ⟨e, h2⟩
      ·have e3 : a0 * n + b0 = i := by omega
       rw [hic] at e3
       obtain ⟨⟨c1, c2⟩, c3, c4⟩ := hc h2.1
       obtain ⟨g1, g2⟩ := pl_inj (show b0 < n by omega) hcn e3
       exact absurd ⟨h2.1, by omega, by omega⟩ hin
end Go.Proofs.Ytjfgklhifhaaoaa
