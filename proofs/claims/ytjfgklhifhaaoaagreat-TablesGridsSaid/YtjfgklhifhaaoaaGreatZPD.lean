/- Tables in plain lists: bands as the reference inserts them are the bands that the package sorts. Conditions: none. -/
import Derived.Test.YtjfgklhifhaaoaaGreatZPB
import Derived.Test.YtjfgklhifhaaoaaGreatZPA
set_option linter.unusedVariables false
set_option linter.unusedSimpArgs false
namespace Go.Proofs.YtjfgklhifhaaoaaGreat
/-- where a band is inserted: behind all that do not begin after it -/
def posG (out : List (Int × Int)) (x : Int) : Nat → Nat
 | 0 => 0
 | k + 1 => if x < (out.getD k (0, 0)).1 then posG out x k else k + 1
def posP (out : List (Int × Int)) (x : Int) : Nat := posG out x out.length
def insP (out : List (Int × Int)) (p : Int × Int) : List (Int × Int) :=
 if 0 < posP out p.1 ∧ out.getD (posP out p.1 - 1) (0, 0) = p then out else out.take (posP out p.1) ++ p :: out.drop (posP out p.1)
/-- the bands of the reference -/
def bndR (l : List Ru) (v : Bool) : List (Int × Int) := (bndL l v).foldl insP []
theorem posG_zero (out : List (Int × Int)) (x : Int) : posG out x 0 = 0 := rfl
theorem posG_more {out : List (Int × Int)} {x : Int} {k : Nat} (h : k < out.length) (hx : x < out[k].1) : posG out x (k + 1) = posG out x k := by
 show (if x < (out.getD k (0, 0)).1 then posG out x k else k + 1) = _
 rw [if_pos (by simpa [List.getD, h] using hx)]
theorem posG_stop {out : List (Int × Int)} {x : Int} {k : Nat} (h : k < out.length) (hx : ¬ x < out[k].1) : posG out x (k + 1) = k + 1 := by
 show (if x < (out.getD k (0, 0)).1 then posG out x k else k + 1) = _
 rw [if_neg (by simpa [List.getD, h] using hx)]
theorem posG_le (out : List (Int × Int)) (x : Int) : ∀ k, posG out x k ≤ k
 | 0 => Nat.le_refl _
 | k + 1 => by
  unfold posG
  split
  ·exact Nat.le_succ_of_le (posG_le out x k)
  ·exact Nat.le_refl _
theorem posG_up {out : List (Int × Int)} {x : Int} : ∀ {k i : Nat}, k ≤ out.length → posG out x k ≤ i → i < k → ∀ h : i < out.length, x < out[i].1
 | 0, i, _, _, h, _ => by omega
 | k + 1, i, hk, h1, h2, h => by
  by_cases hx : x < out[k].1
  ·rw [posG_more (by omega) hx] at h1
   by_cases e : i = k
   ·subst e; exact hx
   ·exact posG_up (by omega) h1 (by omega) h
  ·rw [posG_stop (by omega) hx] at h1
   omega
theorem posG_dn {out : List (Int × Int)} {x : Int} : ∀ {k : Nat}, k ≤ out.length → 0 < posG out x k → ∃ h : posG out x k - 1 < out.length, ¬ x < out[posG out x k - 1].1
 | 0, _, h => by simp [posG] at h
 | k + 1, hk, h => by
  by_cases hx : x < out[k].1
  ·rw [posG_more (by omega) hx] at h
   obtain ⟨h1, h2⟩ := posG_dn (by omega) h
   have e := posG_more (x := x) (show k < out.length by omega) hx
   simp only [e]
   exact ⟨h1, h2⟩
  ·have e := posG_stop (x := x) (show k < out.length by omega) hx
   simp only [e]
   exact ⟨by omega, hx⟩
theorem insP_skip {out : List (Int × Int)} {p : Int × Int} (h0 : 0 < posP out p.1) (h : posP out p.1 - 1 < out.length) (he : out[posP out p.1 - 1] = p) : insP out p = out := by
 unfold insP
 rw [if_pos ⟨h0, by simpa [List.getD, h] using he⟩]
theorem insP_put {out : List (Int × Int)} {p : Int × Int} (h : posP out p.1 = 0 ∨ ∃ h : posP out p.1 - 1 < out.length, out[posP out p.1 - 1] ≠ p) : insP out p = out.take (posP out p.1) ++ p :: out.drop (posP out p.1) := by
 unfold insP
 rw [if_neg]
 rintro ⟨h1, h2⟩
 rcases h with h | ⟨h, h3⟩
 ·omega
 ·exact h3 (by simpa [List.getD, h] using h2)
theorem posP_le (out : List (Int × Int)) (x : Int) : posP out x ≤ out.length := posG_le ..
theorem insP_cases (out : List (Int × Int)) (p : Int × Int) : (∃ h : posP out p.1 - 1 < out.length, 0 < posP out p.1 ∧ out[posP out p.1 - 1] = p ∧ insP out p = out) ∨
  ((posP out p.1 = 0 ∨ ∃ h : posP out p.1 - 1 < out.length, out[posP out p.1 - 1] ≠ p) ∧ insP out p = out.take (posP out p.1) ++ p :: out.drop (posP out p.1)) := by
 by_cases h0 : 0 < posP out p.1
 ·have hl : posP out p.1 - 1 < out.length := by have := posP_le out p.1; omega
  by_cases he : out[posP out p.1 - 1] = p
  ·exact .inl ⟨hl, h0, he, insP_skip h0 hl he⟩
  ·exact .inr ⟨.inr ⟨hl, he⟩, insP_put (.inr ⟨hl, he⟩)⟩
 ·exact .inr ⟨.inl (by omega), insP_put (.inl (by omega))⟩
theorem insP_mem {out : List (Int × Int)} {p x : Int × Int} : x ∈ insP out p ↔ x ∈ out ∨ x = p := by
 rcases insP_cases out p with ⟨h1, h2, h3, e⟩ | ⟨_, e⟩
 ·rw [e]
  refine ⟨.inl, fun h => h.elim id fun h => ?_⟩
  rw [h, ← h3]; exact List.getElem_mem h1
 ·rw [e, List.mem_append, List.mem_cons]
  have h4 : x ∈ out ↔ x ∈ out.take (posP out p.1) ∨ x ∈ out.drop (posP out p.1) := by
   rw [← List.mem_append, List.take_append_drop]
  rw [h4]
  constructor
  ·rintro (h | h | h)
   ·exact .inl (.inl h)
   ·exact .inr h
   ·exact .inl (.inr h)
  ·rintro ((h | h) | h)
   ·exact .inl h
   ·exact .inr (.inr h)
   ·exact .inr (.inl h)
theorem bndR_mem {l : List Ru} {v : Bool} {x : Int × Int} : x ∈ bndR l v ↔ x ∈ bndL l v := by
 have h : ∀ (L out : List (Int × Int)), x ∈ L.foldl insP out ↔ x ∈ out ∨ x ∈ L := fun L => by
  induction L with
  | nil => intro out; simp
  | cons a L ih =>
   intro out
   rw [List.foldl_cons, ih, insP_mem, List.mem_cons]
   constructor
   ·rintro ((h | h) | h)
    ·exact .inl h
    ·exact .inr (.inl h)
    ·exact .inr (.inr h)
   ·rintro (h | h | h)
    ·exact .inl (.inl h)
    ·exact .inl (.inr h)
    ·exact .inr h
 unfold bndR
 rw [h]; simp
/-- the bands begin one behind the other -/
def StB (L : List (Int × Int)) : Prop := L.Pairwise fun a b => a.1 < b.1
theorem insP_st {out : List (Int × Int)} {p : Int × Int} (h : StB out) (hu : ∀ x ∈ out, x.1 = p.1 → x = p) : StB (insP out p) := by
 rcases insP_cases out p with ⟨_, _, _, e⟩ | ⟨hk, e⟩
 ·rw [e]; exact h
 ·rw [e]
  unfold StB at h ⊢
  have hle := posP_le out p.1
  have h1 := List.pairwise_iff_getElem.1 h
  rw [List.pairwise_append]
  refine ⟨h.sublist (List.take_sublist ..), ?_, ?_⟩
  ·rw [List.pairwise_cons]
   refine ⟨fun x hx => ?_, h.sublist (List.drop_sublist ..)⟩
   obtain ⟨i, hi, rfl⟩ := List.getElem_of_mem hx
   rw [List.length_drop] at hi
   rw [List.getElem_drop]
   exact posG_up (Nat.le_refl _) (show posG out p.1 out.length ≤ posP out p.1 + i from Nat.le_add_right _ _) (by omega) (by omega)
  ·intro x hx y hy
   have hxp : x.1 < p.1 := by
    obtain ⟨i, hi, rfl⟩ := List.getElem_of_mem hx
    rw [List.length_take] at hi
    rw [List.getElem_take]
    have hK : 0 < posP out p.1 := by omega
    obtain ⟨g1, g2⟩ := posG_dn (out := out) (x := p.1) (Nat.le_refl _) hK
    have g3 : out[posP out p.1 - 1]'g1 ≠ p := by
     rcases hk with hk | ⟨_, hk⟩
     ·omega
     ·exact hk
    have g4 : (out[posP out p.1 - 1]'g1).1 ≠ p.1 := fun e => g3 (hu _ (List.getElem_mem g1) e)
    have g5 : ¬ p.1 < (out[posP out p.1 - 1]'g1).1 := g2
    by_cases ei : i = posP out p.1 - 1
    ·subst ei; omega
    ·have := h1 i (posP out p.1 - 1) (by omega) g1 (by omega)
     omega
   rcases List.mem_cons.1 hy with rfl | hy
   ·exact hxp
   ·obtain ⟨i, hi, rfl⟩ := List.getElem_of_mem hy
    rw [List.length_drop] at hi
    rw [List.getElem_drop]
    have := posG_up (out := out) (x := p.1) (Nat.le_refl _) (show posG out p.1 out.length ≤ posP out p.1 + i from Nat.le_add_right _ _) (by omega) (by omega)
    omega
theorem bndR_st {l : List Ru} {v : Bool} (hu : ∀ x ∈ bndL l v, ∀ y ∈ bndL l v, x.1 = y.1 → x = y) : StB (bndR l v) := by
 unfold bndR
 have h : ∀ (L out : List (Int × Int)), StB out → (∀ x, x ∈ out ∨ x ∈ L → ∀ y, y ∈ out ∨ y ∈ L → x.1 = y.1 → x = y) → StB (L.foldl insP out) := fun L => by
  induction L with
  | nil => intro out h _; exact h
  | cons a L ih =>
   intro out h hu
   rw [List.foldl_cons]
   refine ih _ (insP_st h fun x hx e => hu x (.inl hx) a (.inr (List.mem_cons_self ..)) e) ?_
   have hm : ∀ x, x ∈ insP out a ∨ x ∈ L → x ∈ out ∨ x ∈ a :: L := fun x hx => by
    rw [insP_mem] at hx
    rcases hx with (hx | rfl) | hx
    ·exact .inl hx
    ·exact .inr (List.mem_cons_self ..)
    ·exact .inr (List.mem_cons_of_mem _ hx)
   exact fun x hx y hy => hu x (hm x hx) y (hm y hy)
 exact h _ _ List.Pairwise.nil fun x hx y hy => hu x (hx.elim (fun h => by cases h) id) y (hy.elim (fun h => by cases h) id)
theorem ded_st : ∀ {L : List (Int × Int)}, (L.Pairwise fun a b => ¬ cmpP b a < 0) → (dedP L).Pairwise fun a b => cmpP a b < 0
 | [], _ => List.Pairwise.nil
 | [a], _ => by simp [dedP]
 | a :: b :: r, h => by
  obtain ⟨h1, h2⟩ := List.pairwise_cons.1 h
  have ih := ded_st h2
  rw [dedP_two]
  by_cases e : a = b
  ·rw [if_pos e]
   obtain ⟨s, hs⟩ := dedP_cons b r
   rw [hs] at ih ⊢
   rw [e]; exact ih
  ·rw [if_neg e, List.pairwise_cons]
   refine ⟨fun x hx => ?_, ih⟩
   have hx' := dedP_mem.1 hx
   have hab := h1 b (List.mem_cons_self ..)
   have hlt : cmpP a b < 0 := by
    rw [cmpP_lt] at hab ⊢
    have : ¬ (a.1 = b.1 ∧ a.2 = b.2) := fun ⟨g1, g2⟩ => e (Prod.ext g1 g2)
    omega
   rcases List.mem_cons.1 hx' with rfl | hx'
   ·exact hlt
   ·have := (List.pairwise_cons.1 h2).1 x hx'
    rw [cmpP_lt] at this hlt ⊢
    omega
theorem bndE_st (l : List Ru) (v : Bool) : (bndE l v).Pairwise fun a b => cmpP a b < 0 := by
 refine ded_st ?_
 have h := List.pairwise_mergeSort (le := fun x y => !decide (cmpP y x < 0)) (fun a b c h1 h2 => by
  simp only [Bool.not_eq_true', decide_eq_false_iff_not, cmpP_lt] at *
  omega) (fun a b => by
  simp only [Bool.or_eq_true, Bool.not_eq_true', decide_eq_false_iff_not, cmpP_lt]
  omega) (bndL l v)
 exact h.imp fun h => by simpa using h
theorem lex_uni {L M : List (Int × Int)} (h1 : L.Pairwise fun a b => cmpP a b < 0) (h2 : M.Pairwise fun a b => cmpP a b < 0) (hm : ∀ x, x ∈ L ↔ x ∈ M) : L = M := by
 have hn : ∀ {L : List (Int × Int)}, (L.Pairwise fun a b => cmpP a b < 0) → L.Nodup := fun h => h.imp fun {a b} hab e => by
  subst e
  rw [cmpP_lt] at hab
  omega
 have hp : L.Perm M := (List.perm_ext_iff_of_nodup (hn h1) (hn h2)).2 hm
 refine List.Perm.eq_of_pairwise (le := fun a b => cmpP a b < 0) ?_ h1 h2 hp
 intro a b _ _ g1 g2
 rw [cmpP_lt] at g1 g2
 omega
/-- the bands are apart, each from all behind it -/
def SepB (L : List (Int × Int)) : Prop := L.Pairwise fun a b => a.1 + a.2 < b.1
theorem aptL_sep : ∀ {L : List (Int × Int)}, (∀ x ∈ L, 1 ≤ x.2) → aptL L = true → SepB L
 | [], _, _ => List.Pairwise.nil
 | [a], _, _ => by simp [SepB]
 | a :: b :: r, h, ha => by
  unfold aptL at ha
  rw [Bool.and_eq_true, decide_eq_true_eq] at ha
  have ih := aptL_sep (fun x hx => h x (List.mem_cons_of_mem _ hx)) ha.2
  unfold SepB at ih ⊢
  rw [List.pairwise_cons]
  refine ⟨fun x hx => ?_, ih⟩
  rcases List.mem_cons.1 hx with rfl | hx
  ·exact ha.1
  ·have h1 := (List.pairwise_cons.1 ih).1 x hx
   have h2 := h b (by simp)
   omega
theorem sep_lex {L : List (Int × Int)} (h0 : ∀ x ∈ L, 1 ≤ x.2) (h : SepB L) : L.Pairwise fun a b => cmpP a b < 0 := by
 refine List.Pairwise.imp_of_mem ?_ h
 intro a b ha _ hab
 have := h0 a ha
 rw [cmpP_lt]; omega
theorem st_lex {L : List (Int × Int)} (h : StB L) : L.Pairwise fun a b => cmpP a b < 0 := h.imp fun h => by rw [cmpP_lt]; omega
theorem bnd_R {l : List Ru} {v : Bool} (h : ∀ r ∈ l, 1 ≤ r.t) : aptE (bndE l v) = aptE (bndR l v) ∧ (aptE (bndE l v) = true → bndE l v = bndR l v) := by
 have hm : ∀ x, x ∈ bndE l v ↔ x ∈ bndR l v := fun x => by
  rw [bndR_mem, bndE_mem]
  unfold bndL
  rw [List.mem_map]
  constructor
  ·rintro ⟨r, hr, hv, rfl⟩
   exact ⟨r, List.mem_filter.2 ⟨hr, by simpa using hv⟩, rfl⟩
  ·rintro ⟨r, hr, rfl⟩
   obtain ⟨h1, h2⟩ := List.mem_filter.1 hr
   exact ⟨r, h1, by simpa using h2, rfl⟩
 have h1 : ∀ x ∈ bndE l v, 1 ≤ x.2 := fun x hx => by
  obtain ⟨r, hr, _, rfl⟩ := bndE_mem.1 hx
  exact h r hr
 have hs := bndE_st l v
 have hA : aptL (bndE l v) = true → bndE l v = bndR l v := fun ha => by
  have hsep := aptL_sep h1 ha
  refine lex_uni hs (st_lex (bndR_st ?_)) hm
  intro x hx y hy hxy
  rw [← bndR_mem, ← hm] at hx hy
  obtain ⟨i, hi, rfl⟩ := List.getElem_of_mem hx
  obtain ⟨j, hj, rfl⟩ := List.getElem_of_mem hy
  have p := List.pairwise_iff_getElem.1 hsep
  have p1 := h1 _ (List.getElem_mem hi)
  have p2 := h1 _ (List.getElem_mem hj)
  rcases Nat.lt_trichotomy i j with e | e | e
  ·have := p i j hi hj e; omega
  ·subst e; rfl
  ·have := p j i hj hi e; omega
 have hB : aptL (bndR l v) = true → bndE l v = bndR l v := fun ha => by
  have h1' : ∀ x ∈ bndR l v, 1 ≤ x.2 := fun x hx => h1 x ((hm x).2 hx)
  exact lex_uni hs (sep_lex h1' (aptL_sep h1' ha)) hm
 have hE : aptE (bndE l v) = true → bndE l v = bndR l v := fun ha => by
  unfold aptE at ha
  rw [Bool.and_eq_true] at ha
  exact hA ha.1
 refine ⟨?_, hE⟩
 cases e : aptE (bndE l v)
 ·cases e2 : aptE (bndR l v)
  ·rfl
  ·have e3 := e2
   unfold aptE at e2
   rw [Bool.and_eq_true] at e2
   rw [hB e2.1, e3] at e; cases e
 ·rw [← hE e, e]
end Go.Proofs.YtjfgklhifhaaoaaGreat
/- Tables in plain lists: what the reference's Draw answers, and that the package's Draw answers the same. Conditions: none. -/
namespace Go.Proofs.YtjfgklhifhaaoaaGreat
/-- k pixels from x on become dark -/
def setR (d : List Bool) (x k : Nat) : List Bool := d.mapIdx fun p b => if x ≤ p ∧ p < x + k then true else b
theorem setR_len (d : List Bool) (x k : Nat) : (setR d x k).length = d.length := by simp [setR]
theorem setR_zero (d : List Bool) (x : Nat) : setR d x 0 = d := by
 apply List.ext_getElem
 ·simp [setR]
 ·intro i h1 h2
  simp only [setR, List.getElem_mapIdx]
  rw [if_neg]; omega
theorem setR_succ (d : List Bool) (x k : Nat) : (setR d x k).set (x + k) true = setR d x (k + 1) := by
 apply List.ext_getElem
 ·simp [setR]
 ·intro i h1 h2
  rw [List.getElem_set]
  simp only [setR, List.getElem_mapIdx]
  by_cases h : x + k = i
  ·rw [if_pos h, if_pos (by omega)]
  ·rw [if_neg h]
   congr 1
   rw [eq_iff_iff]; omega
/-! the lines of an extent, pixel by pixel -/
theorem getD_map' (d : List Bool) (f : Nat → Bool → Bool) (i : Nat) (h : i < d.length) : (d.mapIdx f).getD i false = f i (d.getD i false) := by
 simp [List.getD, h]
theorem setR_at (d : List Bool) (x k i : Nat) (h : i < d.length) : (setR d x k).getD i false = (decide (x ≤ i ∧ i < x + k) || d.getD i false) := by
 unfold setR
 rw [getD_map' _ _ _ h]
 by_cases g : x ≤ i ∧ i < x + k
 ·rw [if_pos g, decide_eq_true g]; rfl
 ·rw [if_neg g, decide_eq_false g]; rfl
end Go.Proofs.YtjfgklhifhaaoaaGreat
/- Tables in plain lists: the frame of lines, as the reference finds it, is the package's. Conditions: none. -/
namespace Go.Proofs.YtjfgklhifhaaoaaGreat
/-- the last place with a property, -1 if there is none -/
def lstK (p : Int × Int → Bool) (l : List (Int × Int)) : Nat → Int
 | 0 => -1
 | k + 1 => if p (l.getD k (0, 0)) then (k : Int) else lstK p l k
def lstP (p : Int × Int → Bool) (l : List (Int × Int)) : Int := lstK p l l.length
theorem lstK_yes {p : Int × Int → Bool} {l : List (Int × Int)} {k : Nat} (h : k < l.length) (hp : p l[k] = true) : lstK p l (k + 1) = (k : Int) := by
 show (if p (l.getD k (0, 0)) then (k : Int) else lstK p l k) = _
 rw [if_pos (by simpa [List.getD, h] using hp)]
theorem lstK_no {p : Int × Int → Bool} {l : List (Int × Int)} {k : Nat} (h : k < l.length) (hp : p l[k] = false) : lstK p l (k + 1) = lstK p l k := by
 show (if p (l.getD k (0, 0)) then (k : Int) else lstK p l k) = _
 rw [if_neg (by simpa [List.getD, h] using hp)]
theorem lstK_lt (p : Int × Int → Bool) (l : List (Int × Int)) : ∀ k, -1 ≤ lstK p l k ∧ lstK p l k < (k : Int) ∨ k = 0 ∧ lstK p l k = -1
 | 0 => .inr ⟨rfl, rfl⟩
 | k + 1 => by
  have := lstK_lt p l k
  show (-1 ≤ (if p (l.getD k (0, 0)) then (k : Int) else lstK p l k) ∧ (if p (l.getD k (0, 0)) then (k : Int) else lstK p l k) < _) ∨ _
  split <;> omega
theorem lstK_none {p : Int × Int → Bool} {l : List (Int × Int)} (h : ∀ j (hj : j < l.length), p l[j] = false) : ∀ k, k ≤ l.length → lstK p l k = -1
 | 0, _ => rfl
 | k + 1, hk => by rw [lstK_no (by omega) (h k (by omega)), lstK_none h k (by omega)]
theorem lstK_one {p : Int × Int → Bool} {l : List (Int × Int)} {i : Nat} (hi : i < l.length) (hp : p l[i] = true) (h : ∀ j (hj : j < l.length), i < j → p l[j] = false) : ∀ k, k ≤ l.length → i < k → lstK p l k = (i : Int)
 | 0, _, h0 => by omega
 | k + 1, hk, h0 => by
  by_cases e : i = k
  ·subst e; exact lstK_yes hi hp
  ·rw [lstK_no (by omega) (h k (by omega) (by omega)), lstK_one hi hp h k (by omega) (by omega)]
/-- where a property holds at one place at most, the last place is the first -/
theorem lst_idx {p : Int × Int → Bool} {l : List (Int × Int)} (hu : ∀ i j (hi : i < l.length) (hj : j < l.length), p l[i] = true → p l[j] = true → i = j) : lstP p l = idxP p l := by
 unfold lstP
 by_cases h : ∃ i, ∃ hi : i < l.length, p l[i] = true
 ·obtain ⟨i, hi, hp⟩ := h
  have hn : ∀ j (hj : j < l.length), j ≠ i → p l[j] = false := fun j hj hne => Bool.eq_false_iff.2 fun e => hne (hu j i hj hi e hp)
  rw [lstK_one hi hp (fun j hj h => hn j hj (by omega)) _ (Nat.le_refl _) hi, idxP_at hi hp fun j hj h => hn j hj (by omega)]
 ·have hn : ∀ j (hj : j < l.length), p l[j] = false := fun j hj => Bool.eq_false_iff.2 fun e => h ⟨j, hj, e⟩
  rw [lstK_none hn _ (Nat.le_refl _), idxP_no hn]
/-- the marks of a line, none if it does not fit -/
def anyR (cv : List Bool) (a n : Nat) : Bool := (List.range' a n).any fun i => cv.getD i false
def covA (r : Ru) (cross : List (Int × Int)) : Int := lstP (fun b => decide (b.1 = r.f)) cross
def covB (r : Ru) (cross : List (Int × Int)) : Int := lstP (fun b => decide (b.1 + b.2 = r.o)) cross
def covE (r : Ru) (cross : List (Int × Int)) (cv : List Bool) : Option (List Bool) :=
 if covA r cross < 0 ∨ covB r cross ≤ covA r cross then none
 else if anyR cv (covA r cross).toNat (covB r cross - covA r cross).toNat then none else some (setR cv (covA r cross).toNat (covB r cross - covA r cross).toNat)
/-- the number of the band that begins at a place -/
def placP (L : List (Int × Int)) (x : Int) : Nat := L.findIdx fun b => decide (b.1 = x)
def outP (L : List (Int × Int)) (x : Int) : Bool := decide (x = (L.getD 0 (0, 0)).1 ∨ x = (L.getD (L.length - 1) (0, 0)).1)
structure Fs where
 O : List (List Bool)
 S : List (List Bool)
 n : Nat
def frmS (H V : List (Int × Int)) (st : Fs) (r : Ru) : Option Fs :=
 if r.v then (covE r H (st.S.getD (placP V r.a) [])).map fun c => ⟨st.O, st.S.set (placP V r.a) c, st.n + if outP V r.a then 1 else 0⟩
 else (covE r V (st.O.getD (placP H r.a) [])).map fun c => ⟨st.O.set (placP H r.a) c, st.S, st.n + if outP H r.a then 1 else 0⟩
def frm0 (H V : List (Int × Int)) : Fs := ⟨List.replicate H.length (List.replicate (V.length - 1) false), List.replicate V.length (List.replicate (H.length - 1) false), 0⟩
def frmL (H V : List (Int × Int)) (l : List Ru) : Option Fs := l.foldl (fun st r => st.bind fun s => frmS H V s r) (some (frm0 H V))
def fulB (l : List Bool) : Bool := l.all id
def frmF (H V : List (Int × Int)) (s : Fs) : Bool := decide (s.n = 4) && fulB (s.O.getD 0 []) && fulB (s.O.getD (H.length - 1) []) && fulB (s.S.getD 0 []) && fulB (s.S.getD (V.length - 1) [])
/-- the reference's frame -/
def frmR (l : List Ru) : Option Fs :=
 if aptE (bndR l false) && aptE (bndR l true) then (frmL (bndR l false) (bndR l true) l).bind fun s => if frmF (bndR l false) (bndR l true) s then some s else none else none
/-! coverage -/
def Disj (a b : Sp) : Prop := ¬ (a.n = b.n ∧ a.f < b.o ∧ b.f < a.o)
theorem Disj.symm {a b : Sp} (h : Disj a b) : Disj b a := fun ⟨h1, h2, h3⟩ => h ⟨h1.symm, h3, h2⟩
def Cv (L : List Sp) (k j : Nat) : Prop := ∃ s ∈ L, s.n = k ∧ s.f ≤ j ∧ j < s.o
def mt2 (M : List (List Bool)) (k j : Nat) : Bool := (M.getD k []).getD j false
/-- marks that tell what spans cover -/
structure Rep (M : List (List Bool)) (L : List Sp) (N K : Nat) : Prop where
 len : M.length = N
 row : ∀ k, k < N → (M.getD k []).length = K
 cov : ∀ k j, k < N → j < K → (mt2 M k j = true ↔ Cv L k j)
theorem Rep.start (N K : Nat) : Rep (List.replicate N (List.replicate K false)) [] N K := by
 have e : ∀ k, k < N → (List.replicate N (List.replicate K false)).getD k [] = List.replicate K false := fun k hk => by simp [List.getD, hk]
 refine ⟨by simp, fun k hk => by rw [e k hk]; simp, fun k j hk hj => ?_⟩
 unfold mt2
 rw [e k hk]
 constructor
 ·intro h; simp [List.getD, hj] at h
 ·rintro ⟨s, hs, _⟩; cases hs
theorem Rep.any {M : List (List Bool)} {L : List Sp} {N K : Nat} (h : Rep M L N K) (hL : ∀ d ∈ L, d.f < d.o) {s : Sp} (h1 : s.n < N) (h2 : s.f < s.o) (h3 : s.o ≤ K) : anyR (M.getD s.n []) s.f (s.o - s.f) = true ↔ ¬ ∀ d ∈ L, Disj d s := by
 unfold anyR
 rw [List.any_eq_true]
 constructor
 ·rintro ⟨j, hj, hc⟩ hd
  rw [List.mem_range'_1] at hj
  obtain ⟨d, hdL, g1, g2, g3⟩ := (h.cov s.n j h1 (by omega)).1 hc
  exact hd d hdL ⟨g1, by omega, by omega⟩
 ·intro hd
  have hd' : ∃ d, d ∈ L ∧ ¬ Disj d s := Classical.byContradiction fun hne => hd fun d hdL => Classical.byContradiction fun hn => hne ⟨d, hdL, hn⟩
  obtain ⟨d, hdL, hn⟩ := hd'
  have hn' : d.n = s.n ∧ d.f < s.o ∧ s.f < d.o := Classical.byContradiction fun hh => hn hh
  obtain ⟨g1, g2, g3⟩ := hn'
  have := hL d hdL
  refine ⟨max d.f s.f, by rw [List.mem_range'_1]; omega, ?_⟩
  exact (h.cov s.n _ h1 (by omega)).2 ⟨d, hdL, g1, by omega, by omega⟩
theorem Rep.put {M : List (List Bool)} {L : List Sp} {N K : Nat} (h : Rep M L N K) {s : Sp} (h1 : s.n < N) (h3 : s.o ≤ K) (h2 : s.f < s.o) : Rep (M.set s.n (setR (M.getD s.n []) s.f (s.o - s.f))) (L ++ [s]) N K := by
 have hl := h.len
 have e : ∀ k, k < N → (M.set s.n (setR (M.getD s.n []) s.f (s.o - s.f))).getD k [] = if s.n = k then setR (M.getD s.n []) s.f (s.o - s.f) else M.getD k [] := fun k hk => by
  rw [List.getD, List.getElem?_set]
  by_cases e : s.n = k
  ·rw [if_pos e, if_pos (by omega), if_pos e]; rfl
  ·rw [if_neg e, if_neg e]; rfl
 refine ⟨by simpa using hl, fun k hk => ?_, fun k j hk hj => ?_⟩
 ·rw [e k hk]
  split
  ·rw [setR_len, h.row _ h1]
  ·exact h.row k hk
 ·unfold mt2
  rw [e k hk]
  have hc : Cv (L ++ [s]) k j ↔ Cv L k j ∨ (s.n = k ∧ s.f ≤ j ∧ j < s.o) := by
   unfold Cv
   constructor
   ·rintro ⟨d, hd, g⟩
    rcases List.mem_append.1 hd with hd | hd
    ·exact .inl ⟨d, hd, g⟩
    ·rw [List.mem_singleton] at hd
     subst hd; exact .inr g
   ·rintro (⟨d, hd, g⟩ | g)
    ·exact ⟨d, List.mem_append_left _ hd, g⟩
    ·exact ⟨s, by simp, g⟩
  rw [hc]
  have hcv := h.cov k j hk hj
  unfold mt2 at hcv
  by_cases es : s.n = k
  ·rw [if_pos es, setR_at _ _ _ _ (by rw [h.row _ h1]; exact hj), es, Bool.or_eq_true, decide_eq_true_iff, hcv]
   constructor
   ·rintro (g | g)
    ·exact .inr ⟨rfl, by omega, by omega⟩
    ·exact .inl g
   ·rintro (g | ⟨_, g1, g2⟩)
    ·exact .inr g
    ·exact .inl ⟨by omega, by omega⟩
  ·rw [if_neg es, hcv]
   constructor
   ·exact .inl
   ·rintro (g | ⟨g, _⟩)
    ·exact g
    ·exact absurd g es
/-! the numbers of a line's bands -/
theorem plac_idx {L : List (Int × Int)} (hs : StB L) {x t : Int} (hm : (x, t) ∈ L) : placP L x = (idxP (fun b => decide (b = (x, t))) L).toNat ∧ placP L x < L.length ∧ (L.getD (placP L x) (0, 0)) = (x, t) := by
 obtain ⟨i, hi, he⟩ := List.getElem_of_mem hm
 have hp := List.pairwise_iff_getElem.1 hs
 have hne : ∀ j (hj : j < L.length), j ≠ i → L[j].1 ≠ x := fun j hj hn e => by
  have e2 : L[i].1 = x := by rw [he]
  rcases Nat.lt_or_ge j i with h | h
  ·have := hp j i hj hi h; omega
  ·have := hp i j hi hj (by omega); omega
 have e1 : placP L x = i := by
  unfold placP
  rw [List.findIdx_eq hi]
  refine ⟨by rw [he]; simp, fun j hj => ?_⟩
  simpa using hne j (by omega) (by omega)
 have e2 : idxP (fun b => decide (b = (x, t))) L = (i : Int) := idxP_at hi (by rw [he]; simp) fun j hj h => by
  rw [decide_eq_false_iff_not]
  intro e
  exact hne j hj (by omega) (by rw [e])
 rw [e1, e2]
 refine ⟨by omega, hi, ?_⟩
 simp [List.getD, hi, he]
theorem cov_idx {oth : List (Int × Int)} (hs : SepB oth) (h1 : ∀ x ∈ oth, 1 ≤ x.2) (r : Ru) : covA r oth = idxP (fun b => decide (b.1 = r.f)) oth ∧ covB r oth = idxP (fun b => decide (b.1 + b.2 = r.o)) oth := by
 have hp := List.pairwise_iff_getElem.1 hs
 constructor
 ·refine lst_idx fun i j hi hj e1 e2 => ?_
  rw [decide_eq_true_iff] at e1 e2
  have g1 := h1 _ (List.getElem_mem hi)
  have g2 := h1 _ (List.getElem_mem hj)
  rcases Nat.lt_trichotomy i j with h | h | h
  ·have := hp i j hi hj h; omega
  ·exact h
  ·have := hp j i hj hi h; omega
 ·refine lst_idx fun i j hi hj e1 e2 => ?_
  rw [decide_eq_true_iff] at e1 e2
  have g1 := h1 _ (List.getElem_mem hi)
  have g2 := h1 _ (List.getElem_mem hj)
  rcases Nat.lt_trichotomy i j with h | h | h
  ·have := hp i j hi hj h; omega
  ·exact h
  ·have := hp j i hj hi h; omega
/-- one direction, one line: what cover says, in spans -/
theorem cov_one {own oth : List (Int × Int)} {M : List (List Bool)} {L : List Sp} {r : Ru} (ho : StB own) (hs : SepB oth) (h1 : ∀ x ∈ oth, 1 ≤ x.2) (hm : (r.a, r.t) ∈ own) (hM : Rep M L own.length (oth.length - 1)) (hL : ∀ d ∈ L, d.f < d.o) :
  (covE r oth (M.getD (placP own r.a) []) = none → ¬ (spnB own oth r = true ∧ ∀ d ∈ L, Disj d (spnO own oth r))) ∧
  (∀ c, covE r oth (M.getD (placP own r.a) []) = some c → (spnB own oth r = true ∧ ∀ d ∈ L, Disj d (spnO own oth r)) ∧ Rep (M.set (placP own r.a) c) (L ++ [spnO own oth r]) own.length (oth.length - 1)) := by
 obtain ⟨p1, p2, p3⟩ := plac_idx ho hm
 obtain ⟨q1, q2⟩ := cov_idx hs h1 r
 have en : (spnO own oth r).n = placP own r.a := p1.symm
 have hb : spnB own oth r = true ↔ ¬ (covA r oth < 0 ∨ covB r oth ≤ covA r oth) := by
  unfold spnB spnI
  rw [decide_eq_true_iff, q1, q2]
  dsimp only
  omega
 unfold covE
 by_cases hc : covA r oth < 0 ∨ covB r oth ≤ covA r oth
 ·rw [if_pos hc]
  exact ⟨fun _ h => (hb.1 h.1) hc, fun c h => by cases h⟩
 ·rw [if_neg hc]
  have hB := hb.2 hc
  have ef : (spnO own oth r).f = (covA r oth).toNat := by rw [q1]; rfl
  have eo : (spnO own oth r).o = (covB r oth).toNat := by rw [q2]; rfl
  have hlt := (idxP_lt (fun b => decide (b.1 + b.2 = r.o)) oth).2
  rw [← q2] at hlt
  have h2 : (spnO own oth r).f < (spnO own oth r).o := by omega
  have h3 : (spnO own oth r).o ≤ oth.length - 1 := by omega
  have h0 : (spnO own oth r).n < own.length := by omega
  have ha := hM.any hL h0 h2 h3
  have hput := hM.put h0 h3 h2
  have ew : (covB r oth - covA r oth).toNat = (spnO own oth r).o - (spnO own oth r).f := by omega
  rw [ew, ← ef, ← en]
  by_cases hA : anyR (M.getD (spnO own oth r).n []) (spnO own oth r).f ((spnO own oth r).o - (spnO own oth r).f) = true
  ·rw [if_pos hA]
   exact ⟨fun _ h => ha.1 hA h.2, fun c h => by cases h⟩
  ·rw [if_neg hA]
   refine ⟨fun h => (by cases h), fun c h => ?_⟩
   obtain rfl := Option.some.inj h
   exact ⟨⟨hB, Classical.byContradiction fun hn => hA (ha.2 hn)⟩, hput⟩
/-! all lines -/
def Good (H V : List (Int × Int)) (l : List Ru) : Prop := (spnA l false H V = true ∧ (spnL l false H V).Pairwise Disj) ∧ spnA l true V H = true ∧ (spnL l true V H).Pairwise Disj
def outS (N : Nat) (s : Sp) : Bool := decide (s.n = 0 ∨ s.n + 1 = N)
def cntO (N : Nat) (L : List Sp) : Nat := L.countP (outS N)
theorem ofV_snoc (l : List Ru) (r : Ru) (v : Bool) : ofV (l ++ [r]) v = ofV l v ++ (if r.v = v then [r] else []) := by
 unfold ofV
 rw [List.filter_append, List.filter_cons]
 by_cases h : r.v = v
 ·rw [if_pos h, if_pos (by simpa using h)]; rfl
 ·rw [if_neg h, if_neg (by simpa using h)]; rfl
theorem spnA_snoc (l : List Ru) (r : Ru) (v : Bool) (own oth : List (Int × Int)) : spnA (l ++ [r]) v own oth = (spnA l v own oth && if r.v = v then spnB own oth r else true) := by
 unfold spnA
 rw [ofV_snoc, List.all_append]
 split <;> simp
theorem spnL_snoc (l : List Ru) (r : Ru) (v : Bool) (own oth : List (Int × Int)) : spnL (l ++ [r]) v own oth = spnL l v own oth ++ (if r.v = v then [spnO own oth r] else []) := by
 unfold spnL
 rw [ofV_snoc, List.map_append]
 split <;> simp
theorem pair_snoc {L : List Sp} {s : Sp} : (L ++ [s]).Pairwise Disj ↔ L.Pairwise Disj ∧ ∀ d ∈ L, Disj d s := by
 rw [List.pairwise_append]
 simp
theorem out_idx {L : List (Int × Int)} (hs : StB L) {r : Ru} (hm : (r.a, r.t) ∈ L) (oth : List (Int × Int)) : outP L r.a = outS L.length (spnO L oth r) := by
 obtain ⟨p1, p2, p3⟩ := plac_idx hs hm
 have en : (spnO L oth r).n = placP L r.a := p1.symm
 unfold outP outS
 rw [en]
 congr 1
 rw [eq_iff_iff]
 generalize placP L r.a = k at *
 have hk : L[k] = (r.a, r.t) := by simpa [List.getD, p2] using p3
 have hp := List.pairwise_iff_getElem.1 hs
 have h0 : L.getD 0 (0, 0) = L[0] := by simp [List.getD, show 0 < L.length by omega]
 have hN : L.getD (L.length - 1) (0, 0) = L[L.length - 1] := by simp [List.getD, show L.length - 1 < L.length by omega]
 rw [h0, hN]
 have ek : L[k].1 = r.a := by rw [hk]
 rw [← ek]
 constructor
 ·rintro (h | h)
  ·by_cases e : k = 0
   ·exact .inl e
   ·have := hp 0 k (by omega) p2 (by omega); omega
  ·by_cases e : k + 1 = L.length
   ·exact .inr e
   ·have := hp k (L.length - 1) p2 (by omega) (by omega); omega
 ·rintro (h | h)
  ·subst h; exact .inl rfl
  ·have : k = L.length - 1 := by omega
   subst this; exact .inr rfl
/-- what the frame is behind some lines -/
structure FsOk (H V : List (Int × Int)) (l : List Ru) (s : Fs) : Prop where
 good : Good H V l
 o : Rep s.O (spnL l false H V) H.length (V.length - 1)
 sd : Rep s.S (spnL l true V H) V.length (H.length - 1)
 n : s.n = cntO H.length (spnL l false H V) + cntO V.length (spnL l true V H)
theorem spnL_lt {l : List Ru} {v : Bool} {own oth : List (Int × Int)} (h : spnA l v own oth = true) : ∀ s ∈ spnL l v own oth, s.f < s.o := spn_lt h
theorem cnt_snoc (N : Nat) (L : List Sp) (s : Sp) : cntO N (L ++ [s]) = cntO N L + if outS N s then 1 else 0 := by
 unfold cntO
 rw [List.countP_append]
 by_cases h : outS N s = true <;> simp [h]
theorem frm_step {H V : List (Int × Int)} (hH : SepB H) (hV : SepB V) (sH : StB H) (sV : StB V) (h1 : ∀ x ∈ H, 1 ≤ x.2) (h2 : ∀ x ∈ V, 1 ≤ x.2) {l : List Ru} {s : Fs} {r : Ru} (hm : (r.a, r.t) ∈ if r.v then V else H) (h : FsOk H V l s) :
  (frmS H V s r = none → ¬ Good H V (l ++ [r])) ∧ ∀ s', frmS H V s r = some s' → FsOk H V (l ++ [r]) s' := by
 obtain ⟨⟨⟨g1, g2⟩, g3, g4⟩, hO, hS, hn⟩ := h
 unfold frmS
 by_cases hv : r.v = true
 ·rw [if_pos hv] at hm
  rw [if_pos hv]
  have hv' : ¬ r.v = false := by rw [hv]; simp
  obtain ⟨c1, c2⟩ := cov_one sV hH h1 hm hS (spnL_lt g3)
  constructor
  ·intro he
   rw [Option.map_eq_none_iff] at he
   rintro ⟨-, k1, k2⟩
   refine c1 he ?_
   rw [spnA_snoc, if_pos hv, Bool.and_eq_true] at k1
   rw [spnL_snoc, if_pos hv, pair_snoc] at k2
   exact ⟨k1.2, k2.2⟩
  ·intro s' he
   obtain ⟨c, hc, rfl⟩ := Option.map_eq_some_iff.1 he
   obtain ⟨⟨d1, d2⟩, d3⟩ := c2 c hc
   have e1 : spnL (l ++ [r]) false H V = spnL l false H V := by rw [spnL_snoc, if_neg hv', List.append_nil]
   have e2 : spnL (l ++ [r]) true V H = spnL l true V H ++ [spnO V H r] := by rw [spnL_snoc, if_pos hv]
   refine ⟨⟨⟨?_, ?_⟩, ?_, ?_⟩, ?_, ?_, ?_⟩
   ·rw [spnA_snoc, if_neg hv', g1]; rfl
   ·rw [e1]; exact g2
   ·rw [spnA_snoc, if_pos hv, g3, d1]; rfl
   ·rw [e2, pair_snoc]; exact ⟨g4, d2⟩
   ·rw [e1]; exact hO
   ·rw [e2]; exact d3
   ·rw [e1, e2, cnt_snoc, ← out_idx sV hm H, ← Nat.add_assoc, ← hn]
 ·have hv' : r.v = false := by simpa using hv
  rw [if_neg hv] at hm
  rw [if_neg hv]
  obtain ⟨c1, c2⟩ := cov_one sH hV h2 hm hO (spnL_lt g1)
  constructor
  ·intro he
   rw [Option.map_eq_none_iff] at he
   rintro ⟨⟨k1, k2⟩, -⟩
   refine c1 he ?_
   rw [spnA_snoc, if_pos hv', Bool.and_eq_true] at k1
   rw [spnL_snoc, if_pos hv', pair_snoc] at k2
   exact ⟨k1.2, k2.2⟩
  ·intro s' he
   obtain ⟨c, hc, rfl⟩ := Option.map_eq_some_iff.1 he
   obtain ⟨⟨d1, d2⟩, d3⟩ := c2 c hc
   have e1 : spnL (l ++ [r]) true V H = spnL l true V H := by rw [spnL_snoc, if_neg hv, List.append_nil]
   have e2 : spnL (l ++ [r]) false H V = spnL l false H V ++ [spnO H V r] := by rw [spnL_snoc, if_pos hv']
   refine ⟨⟨⟨?_, ?_⟩, ?_, ?_⟩, ?_, ?_, ?_⟩
   ·rw [spnA_snoc, if_pos hv', g1, d1]; rfl
   ·rw [e2, pair_snoc]; exact ⟨g2, d2⟩
   ·rw [spnA_snoc, if_neg hv, g3]; rfl
   ·rw [e1]; exact g4
   ·rw [e2]; exact d3
   ·rw [e1]; exact hS
   ·rw [e1, e2, cnt_snoc, ← out_idx sH hm V, hn]; dsimp only; omega
theorem good_pre {H V : List (Int × Int)} {l : List Ru} {r : Ru} (h : Good H V (l ++ [r])) : Good H V l := by
 obtain ⟨⟨g1, g2⟩, g3, g4⟩ := h
 rw [spnA_snoc, Bool.and_eq_true] at g1 g3
 rw [spnL_snoc] at g2 g4
 exact ⟨⟨g1.1, (List.pairwise_append.1 g2).1⟩, g3.1, (List.pairwise_append.1 g4).1⟩
def frmK (H V : List (Int × Int)) (l : List Ru) (i : Nat) : Option Fs := frmL H V (l.take i)
theorem frmK_succ {H V : List (Int × Int)} {l : List Ru} {i : Nat} (h : i < l.length) : frmK H V l (i + 1) = (frmK H V l i).bind fun s => frmS H V s l[i] := by
 unfold frmK frmL
 rw [List.take_succ_eq_append_getElem h, List.foldl_append]; rfl
theorem frm_all {H V : List (Int × Int)} (hH : SepB H) (hV : SepB V) (sH : StB H) (sV : StB V) (h1 : ∀ x ∈ H, 1 ≤ x.2) (h2 : ∀ x ∈ V, 1 ≤ x.2) {l : List Ru} (hm : ∀ r ∈ l, (r.a, r.t) ∈ if r.v then V else H) : ∀ i, i ≤ l.length →
  (frmK H V l i = none → ¬ Good H V (l.take i)) ∧ ∀ s, frmK H V l i = some s → FsOk H V (l.take i) s
 | 0, _ => by
  refine ⟨fun h => by simp [frmK, frmL] at h, fun s h => ?_⟩
  have e : s = frm0 H V := by simpa [frmK, frmL] using h.symm
  subst e
  refine ⟨⟨⟨rfl, List.Pairwise.nil⟩, rfl, List.Pairwise.nil⟩, Rep.start _ _, Rep.start _ _, rfl⟩
 | i + 1, hi => by
  obtain ⟨a1, a2⟩ := frm_all hH hV sH sV h1 h2 hm i (by omega)
  have hl : i < l.length := by omega
  rw [frmK_succ hl, List.take_succ_eq_append_getElem hl]
  cases e : frmK H V l i with
  | none => exact ⟨fun _ h => a1 e (good_pre h), fun s h => by cases h⟩
  | some s => exact frm_step hH hV sH sV h1 h2 (hm _ (List.getElem_mem hl)) (a2 s e)
end Go.Proofs.YtjfgklhifhaaoaaGreat
/- Tables in plain lists: ruling lines as the reference finds them. Conditions: none. -/
namespace Go.Proofs.YtjfgklhifhaaoaaGreat
end Go.Proofs.YtjfgklhifhaaoaaGreat
