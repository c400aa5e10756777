/- Tables in plain lists: bands as the reference inserts them are the bands that the package sorts. Conditions: none. -/
import Derived.Test.YtjfgklhifhaaoaaZPB
import Derived.Test.YtjfgklhifhaaoaaZPA
import Derived.Test.YtjfgklhifhaaoaaZPD
set_option linter.unusedVariables false
set_option linter.unusedSimpArgs false
namespace Go.Proofs.Ytjfgklhifhaaoaa
/-- where a band is inserted: behind all that do not begin after it -/
def posG (out : List (Int × Int)) (x : Int) : Nat → Nat
 | 0 => 0
 | k + 1 => if x < (out.getD k (0, 0)).1 then posG out x k else k + 1
def posP (out : List (Int × Int)) (x : Int) : Nat := posG out x out.length
def insP (out : List (Int × Int)) (p : Int × Int) : List (Int × Int) :=
 if 0 < posP out p.1 ∧ out.getD (posP out p.1 - 1) (0, 0) = p then out else out.take (posP out p.1) ++ p :: out.drop (posP out p.1)
/-- the bands of the reference -/
def bndR (l : List Ru) (v : Bool) : List (Int × Int) := (bndL l v).foldl insP []
theorem posG_more {out : List (Int × Int)} {x : Int} {k : Nat} (h : k < out.length) (hx : x < out[k].1) : posG out x (k + 1) = posG out x k := by
 show (if x < (out.getD k (0, 0)).1 then posG out x k else k + 1) = _
 rw [if_pos (by simpa [List.getD, h] using hx)]
theorem posG_stop {out : List (Int × Int)} {x : Int} {k : Nat} (h : k < out.length) (hx : ¬ x < out[k].1) : posG out x (k + 1) = k + 1 := by
 show (if x < (out.getD k (0, 0)).1 then posG out x k else k + 1) = _
 rw [if_neg (by simpa [List.getD, h] using hx)]
theorem posG_le (out : List (Int × Int)) (x : Int) : ∀ k, posG out x k ≤ k
 | 0 => Nat.le_refl _
 | k + 1 => by
  unfold posG
  split
  ·exact Nat.le_succ_of_le (posG_le out x k)
  ·exact Nat.le_refl _
theorem posG_up {out : List (Int × Int)} {x : Int} : ∀ {k i : Nat}, k ≤ out.length → posG out x k ≤ i → i < k → ∀ h : i < out.length, x < out[i].1
 | 0, i, _, _, h, _ => by omega
 | k + 1, i, hk, h1, h2, h => by
  by_cases hx : x < out[k].1
  ·rw [posG_more (by omega) hx] at h1
   by_cases e : i = k
   ·subst e; exact hx
   ·exact posG_up (by omega) h1 (by omega) h
  ·rw [posG_stop (by omega) hx] at h1
   omega
theorem posG_dn {out : List (Int × Int)} {x : Int} : ∀ {k : Nat}, k ≤ out.length → 0 < posG out x k → ∃ h : posG out x k - 1 < out.length, ¬ x < out[posG out x k - 1].1
 | 0, _, h => by simp [posG] at h
 | k + 1, hk, h => by
  by_cases hx : x < out[k].1
  ·rw [posG_more (by omega) hx] at h
   obtain ⟨h1, h2⟩ := posG_dn (by omega) h
   have e := posG_more (x := x) (show k < out.length by omega) hx
   simp only [e]
   exact ⟨h1, h2⟩
  ·have e := posG_stop (x := x) (show k < out.length by omega) hx
   simp only [e]
   exact ⟨by omega, hx⟩
theorem insP_skip {out : List (Int × Int)} {p : Int × Int} (h0 : 0 < posP out p.1) (h : posP out p.1 - 1 < out.length) (he : out[posP out p.1 - 1] = p) : insP out p = out := by
 unfold insP
 rw [if_pos ⟨h0, by simpa [List.getD, h] using he⟩]
theorem insP_put {out : List (Int × Int)} {p : Int × Int} (h : posP out p.1 = 0 ∨ ∃ h : posP out p.1 - 1 < out.length, out[posP out p.1 - 1] ≠ p) : insP out p = out.take (posP out p.1) ++ p :: out.drop (posP out p.1) := by
 unfold insP
 rw [if_neg]
 rintro ⟨h1, h2⟩
 rcases h with h | ⟨h, h3⟩
 ·omega
 ·exact h3 (by simpa [List.getD, h] using h2)
theorem posP_le (out : List (Int × Int)) (x : Int) : posP out x ≤ out.length := posG_le ..
theorem insP_cases (out : List (Int × Int)) (p : Int × Int) : (∃ h : posP out p.1 - 1 < out.length, 0 < posP out p.1 ∧ out[posP out p.1 - 1] = p ∧ insP out p = out) ∨
  ((posP out p.1 = 0 ∨ ∃ h : posP out p.1 - 1 < out.length, out[posP out p.1 - 1] ≠ p) ∧ insP out p = out.take (posP out p.1) ++ p :: out.drop (posP out p.1)) := by
 by_cases h0 : 0 < posP out p.1
 ·have hl : posP out p.1 - 1 < out.length := by have := posP_le out p.1; omega
  by_cases he : out[posP out p.1 - 1] = p
  ·exact .inl ⟨hl, h0, he, insP_skip h0 hl he⟩
  ·exact .inr ⟨.inr ⟨hl, he⟩, insP_put (.inr ⟨hl, he⟩)⟩
 ·exact .inr ⟨.inl (by omega), insP_put (.inl (by omega))⟩
theorem insP_mem {out : List (Int × Int)} {p x : Int × Int} : x ∈ insP out p ↔ x ∈ out ∨ x = p := by
 rcases insP_cases out p with ⟨h1, h2, h3, e⟩ | ⟨_, e⟩
 ·rw [e]
  refine ⟨.inl, fun h => h.elim id fun h => ?_⟩
  rw [h, ← h3]; exact List.getElem_mem h1
 ·rw [e, List.mem_append, List.mem_cons]
  have h4 : x ∈ out ↔ x ∈ out.take (posP out p.1) ∨ x ∈ out.drop (posP out p.1) := by
   rw [← List.mem_append, List.take_append_drop]
  rw [h4]
  constructor
  ·rintro (h | h | h)
   ·exact .inl (.inl h)
   ·exact .inr h
   ·exact .inl (.inr h)
  ·rintro ((h | h) | h)
   ·exact .inl h
   ·exact .inr (.inr h)
   ·exact .inr (.inl h)
theorem bndR_mem {l : List Ru} {v : Bool} {x : Int × Int} : x ∈ bndR l v ↔ x ∈ bndL l v := by
 have h : ∀ (L out : List (Int × Int)), x ∈ L.foldl insP out ↔ x ∈ out ∨ x ∈ L := fun L => by
  induction L with
  | nil => intro out; simp
  | cons a L ih =>
   intro out
   rw [List.foldl_cons, ih, insP_mem, List.mem_cons]
   constructor
   ·rintro ((h | h) | h)
    ·exact .inl h
    ·exact .inr (.inl h)
    ·exact .inr (.inr h)
   ·rintro (h | h | h)
    ·exact .inl (.inl h)
    ·exact .inl (.inr h)
    ·exact .inr h
 unfold bndR
 rw [h]; simp
/-- the bands begin one behind the other -/
def StB (L : List (Int × Int)) : Prop := L.Pairwise fun a b => a.1 < b.1
theorem insP_st {out : List (Int × Int)} {p : Int × Int} (h : StB out) (hu : ∀ x ∈ out, x.1 = p.1 → x = p) : StB (insP out p) := by
 rcases insP_cases out p with ⟨_, _, _, e⟩ | ⟨hk, e⟩
 ·rw [e]; exact h
 ·rw [e]
  unfold StB at h ⊢
  have hle := posP_le out p.1
  have h1 := List.pairwise_iff_getElem.1 h
  rw [List.pairwise_append]
  refine ⟨h.sublist (List.take_sublist ..), ?_, ?_⟩
  ·rw [List.pairwise_cons]
   refine ⟨fun x hx => ?_, h.sublist (List.drop_sublist ..)⟩
   obtain ⟨i, hi, rfl⟩ := List.getElem_of_mem hx
   rw [List.length_drop] at hi
   rw [List.getElem_drop]
   exact posG_up (Nat.le_refl _) (show posG out p.1 out.length ≤ posP out p.1 + i from Nat.le_add_right _ _) (by omega) (by omega)
  ·intro x hx y hy
   have hxp : x.1 < p.1 := by
    obtain ⟨i, hi, rfl⟩ := List.getElem_of_mem hx
    rw [List.length_take] at hi
    rw [List.getElem_take]
    have hK : 0 < posP out p.1 := by omega
    obtain ⟨g1, g2⟩ := posG_dn (out := out) (x := p.1) (Nat.le_refl _) hK
    have g3 : out[posP out p.1 - 1]'g1 ≠ p := by
     rcases hk with hk | ⟨_, hk⟩
     ·omega
     ·exact hk
    have g4 : (out[posP out p.1 - 1]'g1).1 ≠ p.1 := fun e => g3 (hu _ (List.getElem_mem g1) e)
    have g5 : ¬ p.1 < (out[posP out p.1 - 1]'g1).1 := g2
    by_cases ei : i = posP out p.1 - 1
    ·subst ei; omega
    ·have := h1 i (posP out p.1 - 1) (by omega) g1 (by omega)
     omega
   rcases List.mem_cons.1 hy with rfl | hy
   ·exact hxp
   ·obtain ⟨i, hi, rfl⟩ := List.getElem_of_mem hy
    rw [List.length_drop] at hi
    rw [List.getElem_drop]
    have := posG_up (out := out) (x := p.1) (Nat.le_refl _) (show posG out p.1 out.length ≤ posP out p.1 + i from Nat.le_add_right _ _) (by omega) (by omega)
    omega
theorem bndR_st {l : List Ru} {v : Bool} (hu : ∀ x ∈ bndL l v, ∀ y ∈ bndL l v, x.1 = y.1 → x = y) : StB (bndR l v) := by
 unfold bndR
 have h : ∀ (L out : List (Int × Int)), StB out → (∀ x, x ∈ out ∨ x ∈ L → ∀ y, y ∈ out ∨ y ∈ L → x.1 = y.1 → x = y) → StB (L.foldl insP out) := fun L => by
  induction L with
  | nil => intro out h _; exact h
  | cons a L ih =>
   intro out h hu
   rw [List.foldl_cons]
   refine ih _ (insP_st h fun x hx e => hu x (.inl hx) a (.inr (List.mem_cons_self ..)) e) ?_
   have hm : ∀ x, x ∈ insP out a ∨ x ∈ L → x ∈ out ∨ x ∈ a :: L := fun x hx => by
    rw [insP_mem] at hx
    rcases hx with (hx | rfl) | hx
    ·exact .inl hx
    ·exact .inr (List.mem_cons_self ..)
    ·exact .inr (List.mem_cons_of_mem _ hx)
   exact fun x hx y hy => hu x (hm x hx) y (hm y hy)
 exact h _ _ List.Pairwise.nil fun x hx y hy => hu x (hx.elim (fun h => by cases h) id) y (hy.elim (fun h => by cases h) id)
theorem ded_st : ∀ {L : List (Int × Int)}, (L.Pairwise fun a b => ¬ cmpP b a < 0) → (dedP L).Pairwise fun a b => cmpP a b < 0
 | [], _ => List.Pairwise.nil
 | [a], _ => by simp [dedP]
 | a :: b :: r, h => by
  obtain ⟨h1, h2⟩ := List.pairwise_cons.1 h
  have ih := ded_st h2
  rw [dedP_two]
  by_cases e : a = b
  ·rw [if_pos e]
   obtain ⟨s, hs⟩ := dedP_cons b r
   rw [hs] at ih ⊢
   rw [e]; exact ih
  ·rw [if_neg e, List.pairwise_cons]
   refine ⟨fun x hx => ?_, ih⟩
   have hx' := dedP_mem.1 hx
   have hab := h1 b (List.mem_cons_self ..)
   have hlt : cmpP a b < 0 := by
    rw [cmpP_lt] at hab ⊢
    have : ¬ (a.1 = b.1 ∧ a.2 = b.2) := fun ⟨g1, g2⟩ => e (Prod.ext g1 g2)
    omega
   rcases List.mem_cons.1 hx' with rfl | hx'
   ·exact hlt
   ·have := (List.pairwise_cons.1 h2).1 x hx'
    rw [cmpP_lt] at this hlt ⊢
    omega
theorem bndE_st (l : List Ru) (v : Bool) : (bndE l v).Pairwise fun a b => cmpP a b < 0 := by
 refine ded_st ?_
 have h := List.pairwise_mergeSort (le := fun x y => !decide (cmpP y x < 0)) (fun a b c h1 h2 => by
  simp only [Bool.not_eq_true', decide_eq_false_iff_not, cmpP_lt] at *
  omega) (fun a b => by
  simp only [Bool.or_eq_true, Bool.not_eq_true', decide_eq_false_iff_not, cmpP_lt]
  omega) (bndL l v)
 exact h.imp fun h => by simpa using h
theorem lex_uni {L M : List (Int × Int)} (h1 : L.Pairwise fun a b => cmpP a b < 0) (h2 : M.Pairwise fun a b => cmpP a b < 0) (hm : ∀ x, x ∈ L ↔ x ∈ M) : L = M := by
 have hn : ∀ {L : List (Int × Int)}, (L.Pairwise fun a b => cmpP a b < 0) → L.Nodup := fun h => h.imp fun {a b} hab e => by
  subst e
  rw [cmpP_lt] at hab
  omega
 have hp : L.Perm M := (List.perm_ext_iff_of_nodup (hn h1) (hn h2)).2 hm
 refine List.Perm.eq_of_pairwise (le := fun a b => cmpP a b < 0) ?_ h1 h2 hp
 intro a b _ _ g1 g2
 rw [cmpP_lt] at g1 g2
 omega
/-- the bands are apart, each from all behind it -/
def SepB (L : List (Int × Int)) : Prop := L.Pairwise fun a b => a.1 + a.2 < b.1
theorem aptL_sep : ∀ {L : List (Int × Int)}, (∀ x ∈ L, 1 ≤ x.2) → aptL L = true → SepB L
 | [], _, _ => List.Pairwise.nil
 | [a], _, _ => by simp [SepB]
 | a :: b :: r, h, ha => by
  unfold aptL at ha
  rw [Bool.and_eq_true, decide_eq_true_eq] at ha
  have ih := aptL_sep (fun x hx => h x (List.mem_cons_of_mem _ hx)) ha.2
  unfold SepB at ih ⊢
  rw [List.pairwise_cons]
  refine ⟨fun x hx => ?_, ih⟩
  rcases List.mem_cons.1 hx with rfl | hx
  ·exact ha.1
  ·have h1 := (List.pairwise_cons.1 ih).1 x hx
   have h2 := h b (by simp)
   omega
theorem sep_lex {L : List (Int × Int)} (h0 : ∀ x ∈ L, 1 ≤ x.2) (h : SepB L) : L.Pairwise fun a b => cmpP a b < 0 := by
 refine List.Pairwise.imp_of_mem ?_ h
 intro a b ha _ hab
 have := h0 a ha
 rw [cmpP_lt]; omega
theorem st_lex {L : List (Int × Int)} (h : StB L) : L.Pairwise fun a b => cmpP a b < 0 := h.imp fun h => by rw [cmpP_lt]; omega
theorem bnd_R {l : List Ru} {v : Bool} (h : ∀ r ∈ l, 1 ≤ r.t) : aptE (bndE l v) = aptE (bndR l v) ∧ (aptE (bndE l v) = true → bndE l v = bndR l v) := by
 have hm : ∀ x, x ∈ bndE l v ↔ x ∈ bndR l v := fun x => by
  rw [bndR_mem, bndE_mem]
  unfold bndL
  rw [List.mem_map]
  constructor
  ·rintro ⟨r, hr, hv, rfl⟩
   exact ⟨r, List.mem_filter.2 ⟨hr, by simpa using hv⟩, rfl⟩
  ·rintro ⟨r, hr, rfl⟩
   obtain ⟨h1, h2⟩ := List.mem_filter.1 hr
   exact ⟨r, h1, by simpa using h2, rfl⟩
 have h1 : ∀ x ∈ bndE l v, 1 ≤ x.2 := fun x hx => by
  obtain ⟨r, hr, _, rfl⟩ := bndE_mem.1 hx
  exact h r hr
 have hs := bndE_st l v
 have hA : aptL (bndE l v) = true → bndE l v = bndR l v := fun ha => by
  have hsep := aptL_sep h1 ha
  refine lex_uni hs (st_lex (bndR_st ?_)) hm
  intro x hx y hy hxy
  rw [← bndR_mem, ← hm] at hx hy
  obtain ⟨i, hi, rfl⟩ := List.getElem_of_mem hx
  obtain ⟨j, hj, rfl⟩ := List.getElem_of_mem hy
  have p := List.pairwise_iff_getElem.1 hsep
  have p1 := h1 _ (List.getElem_mem hi)
  have p2 := h1 _ (List.getElem_mem hj)
  rcases Nat.lt_trichotomy i j with e | e | e
  ·have := p i j hi hj e; omega
  ·subst e; rfl
  ·have := p j i hj hi e; omega
 have hB : aptL (bndR l v) = true → bndE l v = bndR l v := fun ha => by
  have h1' : ∀ x ∈ bndR l v, 1 ≤ x.2 := fun x hx => h1 x ((hm x).2 hx)
  exact lex_uni hs (sep_lex h1' (aptL_sep h1' ha)) hm
 have hE : aptE (bndE l v) = true → bndE l v = bndR l v := fun ha => by
  unfold aptE at ha
  rw [Bool.and_eq_true] at ha
  exact hA ha.1
 refine ⟨?_, hE⟩
 cases e : aptE (bndE l v)
 ·cases e2 : aptE (bndR l v)
  ·rfl
  ·have e3 := e2
   unfold aptE at e2
   rw [Bool.and_eq_true] at e2
   rw [hB e2.1, e3] at e; cases e
 ·rw [← hE e, e]
end Go.Proofs.Ytjfgklhifhaaoaa
/- Tables in plain lists: what the reference's Draw answers, and that the package's Draw answers the same. Conditions: none. -/
namespace Go.Proofs.Ytjfgklhifhaaoaa
/-- k pixels from x on become dark -/
def setR (d : List Bool) (x k : Nat) : List Bool := d.mapIdx fun p b => if x ≤ p ∧ p < x + k then true else b
theorem setR_len (d : List Bool) (x k : Nat) : (setR d x k).length = d.length := by simp [setR]
/-! the lines of an extent, pixel by pixel -/
def inL (t : Int) : List Int → Int → Int → Bool
 | [], _, _ => false
 | n :: l, s, p => decide (s + n ≤ p ∧ p < s + n + t) || inL t l (s + (n + t)) p
theorem getD_map' (d : List Bool) (f : Nat → Bool → Bool) (i : Nat) (h : i < d.length) : (d.mapIdx f).getD i false = f i (d.getD i false) := by
 simp [List.getD, h]
theorem setR_at (d : List Bool) (x k i : Nat) (h : i < d.length) : (setR d x k).getD i false = (decide (x ≤ i ∧ i < x + k) || d.getD i false) := by
 unfold setR
 rw [getD_map' _ _ _ h]
 by_cases g : x ≤ i ∧ i < x + k
 ·rw [if_pos g, decide_eq_true g]; rfl
 ·rw [if_neg g, decide_eq_false g]; rfl
theorem pntL_at (d : List Bool) (W X Y U V : Nat) (t : Bool) (i : Nat) (h : i < d.length) : (pntL d W X Y U V t).getD i false = if X ≤ i % W ∧ i % W < U ∧ Y ≤ i / W ∧ i / W < V then t else d.getD i false := by
 unfold pntL
 rw [getD_map' _ _ _ h]
theorem pntB_at {W H : Int} {d : List Bool} {b : Bx} {i : Nat} (h : i < d.length) (hx : i % W.toNat < W.toNat) (hy : i / W.toNat < H.toNat) (b1 : 0 ≤ b.x) (b2 : 0 ≤ b.y) : (pntB W H d b true).getD i false = (decide (b.x ≤ ((i % W.toNat : Nat) : Int) ∧ ((i % W.toNat : Nat) : Int) < b.x + b.w ∧ b.y ≤ ((i / W.toNat : Nat) : Int) ∧ ((i / W.toNat : Nat) : Int) < b.y + b.h) || d.getD i false) := by
 unfold pntB
 rw [pntL_at _ _ _ _ _ _ _ _ h]
 generalize i % W.toNat = x at *
 generalize i / W.toNat = y at *
 by_cases g : b.x ≤ (x : Int) ∧ (x : Int) < b.x + b.w ∧ b.y ≤ (y : Int) ∧ (y : Int) < b.y + b.h
 ·rw [if_pos (by omega), decide_eq_true g]; rfl
 ·rw [if_neg (by omega), decide_eq_false g]; rfl
theorem cols_at {W H t : Int} {i : Nat} (h1 : 1 ≤ t) (hx : i % W.toNat < W.toNat) (hy : i / W.toNat < H.toNat) : ∀ (l : List Int) (s : Int × List Bool), (∀ n ∈ l, 1 ≤ n) → 0 ≤ s.1 → i < s.2.length →
  ((l.foldl (colS W H t) s).2).getD i false = (s.2.getD i false || inL t l s.1 ((i % W.toNat : Nat) : Int))
 | [], s, _, _, _ => by simp [inL]
 | n :: l, s, h, h0, hi => by
  have hn := h n (List.mem_cons_self ..)
  rw [List.foldl_cons, cols_at h1 hx hy l _ (fun x hx => h x (List.mem_cons_of_mem _ hx)) (by unfold colS; dsimp only; omega) (by unfold colS; rw [pntB_len]; exact hi)]
  unfold colS
  dsimp only
  rw [pntB_at hi hx hy (by dsimp only; omega) (by dsimp only; omega), inL]
  dsimp only
  have e : decide (s.1 + n ≤ ((i % W.toNat : Nat) : Int) ∧ ((i % W.toNat : Nat) : Int) < s.1 + n + t ∧ 0 ≤ ((i / W.toNat : Nat) : Int) ∧ ((i / W.toNat : Nat) : Int) < 0 + H) = decide (s.1 + n ≤ ((i % W.toNat : Nat) : Int) ∧ ((i % W.toNat : Nat) : Int) < s.1 + n + t) := by
   have y0 := Int.natCast_nonneg (i / W.toNat)
   congr 1; rw [eq_iff_iff]; omega
  rw [e]
  cases s.2.getD i false <;> simp
theorem rows_at {W H t : Int} {i : Nat} (h1 : 1 ≤ t) (hx : i % W.toNat < W.toNat) (hy : i / W.toNat < H.toNat) : ∀ (l : List Int) (s : Int × List Bool), (∀ n ∈ l, 1 ≤ n) → 0 ≤ s.1 → i < s.2.length →
  ((l.foldl (rowS W H t) s).2).getD i false = (s.2.getD i false || inL t l s.1 ((i / W.toNat : Nat) : Int))
 | [], s, _, _, _ => by simp [inL]
 | n :: l, s, h, h0, hi => by
  have hn := h n (List.mem_cons_self ..)
  rw [List.foldl_cons, rows_at h1 hx hy l _ (fun x hx => h x (List.mem_cons_of_mem _ hx)) (by unfold rowS; dsimp only; omega) (by unfold rowS; rw [pntB_len]; exact hi)]
  unfold rowS
  dsimp only
  rw [pntB_at hi hx hy (by dsimp only; omega) (by dsimp only; omega), inL]
  dsimp only
  have e : decide (0 ≤ ((i % W.toNat : Nat) : Int) ∧ ((i % W.toNat : Nat) : Int) < 0 + W ∧ s.1 + n ≤ ((i / W.toNat : Nat) : Int) ∧ ((i / W.toNat : Nat) : Int) < s.1 + n + t) = decide (s.1 + n ≤ ((i / W.toNat : Nat) : Int) ∧ ((i / W.toNat : Nat) : Int) < s.1 + n + t) := by
   have y0 := Int.natCast_nonneg (i % W.toNat)
   congr 1; rw [eq_iff_iff]; omega
  rw [e]
  cases s.2.getD i false <;> simp
theorem cols_len (W H t : Int) : ∀ (l : List Int) (s : Int × List Bool), (l.foldl (colS W H t) s).2.length = s.2.length
 | [], s => rfl
 | n :: l, s => (cols_len W H t l _).trans (pntB_len ..)
theorem rows_len (W H t : Int) : ∀ (l : List Int) (s : Int × List Bool), (l.foldl (rowS W H t) s).2.length = s.2.length
 | [], s => rfl
 | n :: l, s => (rows_len W H t l _).trans (pntB_len ..)
theorem drwL_len (ws hs : List Int) (t W H : Int) : (drwL ws hs t W H).length = (W * H).toNat := by
 unfold drwL
 rw [rows_len, cols_len, pntB_len, pntB_len]; simp
/-- a pixel of the drawn table -/
theorem drwL_at {ws hs : List Int} {t W H : Int} {i : Nat} (h1 : 1 ≤ t) (hW : 0 ≤ W) (hH : 0 ≤ H) (h2 : ∀ n ∈ ws, 1 ≤ n) (h3 : ∀ n ∈ hs, 1 ≤ n) (hi : i < W.toNat * H.toNat) :
  (drwL ws hs t W H).getD i false = ((decide (((i % W.toNat : Nat) : Int) < t) || inL t ws t ((i % W.toNat : Nat) : Int)) || (decide (((i / W.toNat : Nat) : Int) < t) || inL t hs t ((i / W.toNat : Nat) : Int))) := by
 have hw0 : 0 < W.toNat := by
  rcases Nat.eq_zero_or_pos W.toNat with e | e
  ·rw [e, Nat.zero_mul] at hi; omega
  ·exact e
 have hx : i % W.toNat < W.toNat := Nat.mod_lt _ hw0
 have hy : i / W.toNat < H.toNat := Nat.div_lt_of_lt_mul hi
 have hl : i < (W * H).toNat := by
  rw [Int.toNat_mul hW hH]; exact hi
 unfold drwL
 rw [rows_at h1 hx hy hs _ h3 (by dsimp only; omega) (by rw [cols_len, pntB_len, pntB_len]; simpa using hl)]
 dsimp only
 rw [cols_at h1 hx hy ws _ h2 (by dsimp only; omega) (by rw [pntB_len, pntB_len]; simpa using hl)]
 dsimp only
 rw [pntB_at (by rw [pntB_len]; simpa using hl) hx hy (by dsimp only; omega) (by dsimp only; omega), pntB_at (by simpa using hl) hx hy (by dsimp only; omega) (by dsimp only; omega)]
 dsimp only
 have e0 : (List.replicate (W * H).toNat false).getD i false = false := by simp [List.getD, hl]
 have x0 := Int.natCast_nonneg (i % W.toNat)
 have y0 := Int.natCast_nonneg (i / W.toNat)
 have e1 : decide (0 ≤ ((i % W.toNat : Nat) : Int) ∧ ((i % W.toNat : Nat) : Int) < 0 + W ∧ 0 ≤ ((i / W.toNat : Nat) : Int) ∧ ((i / W.toNat : Nat) : Int) < 0 + t) = decide (((i / W.toNat : Nat) : Int) < t) := by
  congr 1; rw [eq_iff_iff]; omega
 have e2 : decide (0 ≤ ((i % W.toNat : Nat) : Int) ∧ ((i % W.toNat : Nat) : Int) < 0 + t ∧ 0 ≤ ((i / W.toNat : Nat) : Int) ∧ ((i / W.toNat : Nat) : Int) < 0 + H) = decide (((i % W.toNat : Nat) : Int) < t) := by
  congr 1; rw [eq_iff_iff]; omega
 rw [e0, e1, e2]
 cases decide (((i / W.toNat : Nat) : Int) < t) <;> cases decide (((i % W.toNat : Nat) : Int) < t) <;> simp
end Go.Proofs.Ytjfgklhifhaaoaa
/- Tables in plain lists: the frame of lines, as the reference finds it, is the package's. Conditions: none. -/
namespace Go.Proofs.Ytjfgklhifhaaoaa
/-- the last place with a property, -1 if there is none -/
def lstK (p : Int × Int → Bool) (l : List (Int × Int)) : Nat → Int
 | 0 => -1
 | k + 1 => if p (l.getD k (0, 0)) then (k : Int) else lstK p l k
def lstP (p : Int × Int → Bool) (l : List (Int × Int)) : Int := lstK p l l.length
theorem lstK_yes {p : Int × Int → Bool} {l : List (Int × Int)} {k : Nat} (h : k < l.length) (hp : p l[k] = true) : lstK p l (k + 1) = (k : Int) := by
 show (if p (l.getD k (0, 0)) then (k : Int) else lstK p l k) = _
 rw [if_pos (by simpa [List.getD, h] using hp)]
theorem lstK_no {p : Int × Int → Bool} {l : List (Int × Int)} {k : Nat} (h : k < l.length) (hp : p l[k] = false) : lstK p l (k + 1) = lstK p l k := by
 show (if p (l.getD k (0, 0)) then (k : Int) else lstK p l k) = _
 rw [if_neg (by simpa [List.getD, h] using hp)]
theorem lstK_none {p : Int × Int → Bool} {l : List (Int × Int)} (h : ∀ j (hj : j < l.length), p l[j] = false) : ∀ k, k ≤ l.length → lstK p l k = -1
 | 0, _ => rfl
 | k + 1, hk => by rw [lstK_no (by omega) (h k (by omega)), lstK_none h k (by omega)]
theorem lstK_one {p : Int × Int → Bool} {l : List (Int × Int)} {i : Nat} (hi : i < l.length) (hp : p l[i] = true) (h : ∀ j (hj : j < l.length), i < j → p l[j] = false) : ∀ k, k ≤ l.length → i < k → lstK p l k = (i : Int)
 | 0, _, h0 => by omega
 | k + 1, hk, h0 => by
  by_cases e : i = k
  ·subst e; exact lstK_yes hi hp
  ·rw [lstK_no (by omega) (h k (by omega) (by omega)), lstK_one hi hp h k (by omega) (by omega)]
/-- where a property holds at one place at most, the last place is the first -/
theorem lst_idx {p : Int × Int → Bool} {l : List (Int × Int)} (hu : ∀ i j (hi : i < l.length) (hj : j < l.length), p l[i] = true → p l[j] = true → i = j) : lstP p l = idxP p l := by
 unfold lstP
 by_cases h : ∃ i, ∃ hi : i < l.length, p l[i] = true
 ·obtain ⟨i, hi, hp⟩ := h
  have hn : ∀ j (hj : j < l.length), j ≠ i → p l[j] = false := fun j hj hne => Bool.eq_false_iff.2 fun e => hne (hu j i hj hi e hp)
  rw [lstK_one hi hp (fun j hj h => hn j hj (by omega)) _ (Nat.le_refl _) hi, idxP_at hi hp fun j hj h => hn j hj (by omega)]
 ·have hn : ∀ j (hj : j < l.length), p l[j] = false := fun j hj => Bool.eq_false_iff.2 fun e => h ⟨j, hj, e⟩
  rw [lstK_none hn _ (Nat.le_refl _), idxP_no hn]
/-- the marks of a line, none if it does not fit -/
def anyR (cv : List Bool) (a n : Nat) : Bool := (List.range' a n).any fun i => cv.getD i false
def covA (r : Ru) (cross : List (Int × Int)) : Int := lstP (fun b => decide (b.1 = r.f)) cross
def covB (r : Ru) (cross : List (Int × Int)) : Int := lstP (fun b => decide (b.1 + b.2 = r.o)) cross
def covE (r : Ru) (cross : List (Int × Int)) (cv : List Bool) : Option (List Bool) :=
 if covA r cross < 0 ∨ covB r cross ≤ covA r cross then none
 else if anyR cv (covA r cross).toNat (covB r cross - covA r cross).toNat then none else some (setR cv (covA r cross).toNat (covB r cross - covA r cross).toNat)
/-- the number of the band that begins at a place -/
def placP (L : List (Int × Int)) (x : Int) : Nat := L.findIdx fun b => decide (b.1 = x)
def outP (L : List (Int × Int)) (x : Int) : Bool := decide (x = (L.getD 0 (0, 0)).1 ∨ x = (L.getD (L.length - 1) (0, 0)).1)
structure Fs where
 O : List (List Bool)
 S : List (List Bool)
 n : Nat
def frmS (H V : List (Int × Int)) (st : Fs) (r : Ru) : Option Fs :=
 if r.v then (covE r H (st.S.getD (placP V r.a) [])).map fun c => ⟨st.O, st.S.set (placP V r.a) c, st.n + if outP V r.a then 1 else 0⟩
 else (covE r V (st.O.getD (placP H r.a) [])).map fun c => ⟨st.O.set (placP H r.a) c, st.S, st.n + if outP H r.a then 1 else 0⟩
def frm0 (H V : List (Int × Int)) : Fs := ⟨List.replicate H.length (List.replicate (V.length - 1) false), List.replicate V.length (List.replicate (H.length - 1) false), 0⟩
def frmL (H V : List (Int × Int)) (l : List Ru) : Option Fs := l.foldl (fun st r => st.bind fun s => frmS H V s r) (some (frm0 H V))
def fulB (l : List Bool) : Bool := l.all id
def frmF (H V : List (Int × Int)) (s : Fs) : Bool := decide (s.n = 4) && fulB (s.O.getD 0 []) && fulB (s.O.getD (H.length - 1) []) && fulB (s.S.getD 0 []) && fulB (s.S.getD (V.length - 1) [])
/-- the reference's frame -/
def frmR (l : List Ru) : Option Fs :=
 if aptE (bndR l false) && aptE (bndR l true) then (frmL (bndR l false) (bndR l true) l).bind fun s => if frmF (bndR l false) (bndR l true) s then some s else none else none
/-! coverage -/
def Disj (a b : Sp) : Prop := ¬ (a.n = b.n ∧ a.f < b.o ∧ b.f < a.o)
theorem Disj.symm {a b : Sp} (h : Disj a b) : Disj b a := fun ⟨h1, h2, h3⟩ => h ⟨h1.symm, h3, h2⟩
def Cv (L : List Sp) (k j : Nat) : Prop := ∃ s ∈ L, s.n = k ∧ s.f ≤ j ∧ j < s.o
def mt2 (M : List (List Bool)) (k j : Nat) : Bool := (M.getD k []).getD j false
/-- marks that tell what spans cover -/
structure Rep (M : List (List Bool)) (L : List Sp) (N K : Nat) : Prop where
 len : M.length = N
 row : ∀ k, k < N → (M.getD k []).length = K
 cov : ∀ k j, k < N → j < K → (mt2 M k j = true ↔ Cv L k j)
theorem Rep.start (N K : Nat) : Rep (List.replicate N (List.replicate K false)) [] N K := by
 have e : ∀ k, k < N → (List.replicate N (List.replicate K false)).getD k [] = List.replicate K false := fun k hk => by simp [List.getD, hk]
 refine ⟨by simp, fun k hk => by rw [e k hk]; simp, fun k j hk hj => ?_⟩
 unfold mt2
 rw [e k hk]
 constructor
 ·intro h; simp [List.getD, hj] at h
 ·rintro ⟨s, hs, _⟩; cases hs
theorem Rep.any {M : List (List Bool)} {L : List Sp} {N K : Nat} (h : Rep M L N K) (hL : ∀ d ∈ L, d.f < d.o) {s : Sp} (h1 : s.n < N) (h2 : s.f < s.o) (h3 : s.o ≤ K) : anyR (M.getD s.n []) s.f (s.o - s.f) = true ↔ ¬ ∀ d ∈ L, Disj d s := by
 unfold anyR
 rw [List.any_eq_true]
 constructor
 ·rintro ⟨j, hj, hc⟩ hd
  rw [List.mem_range'_1] at hj
  obtain ⟨d, hdL, g1, g2, g3⟩ := (h.cov s.n j h1 (by omega)).1 hc
  exact hd d hdL ⟨g1, by omega, by omega⟩
 ·intro hd
  have hd' : ∃ d, d ∈ L ∧ ¬ Disj d s := Classical.byContradiction fun hne => hd fun d hdL => Classical.byContradiction fun hn => hne ⟨d, hdL, hn⟩
  obtain ⟨d, hdL, hn⟩ := hd'
  have hn' : d.n = s.n ∧ d.f < s.o ∧ s.f < d.o := Classical.byContradiction fun hh => hn hh
  obtain ⟨g1, g2, g3⟩ := hn'
  have := hL d hdL
  refine ⟨max d.f s.f, by rw [List.mem_range'_1]; omega, ?_⟩
  exact (h.cov s.n _ h1 (by omega)).2 ⟨d, hdL, g1, by omega, by omega⟩
theorem Rep.put {M : List (List Bool)} {L : List Sp} {N K : Nat} (h : Rep M L N K) {s : Sp} (h1 : s.n < N) (h3 : s.o ≤ K) (h2 : s.f < s.o) : Rep (M.set s.n (setR (M.getD s.n []) s.f (s.o - s.f))) (L ++ [s]) N K := by
 have hl := h.len
 have e : ∀ k, k < N → (M.set s.n (setR (M.getD s.n []) s.f (s.o - s.f))).getD k [] = if s.n = k then setR (M.getD s.n []) s.f (s.o - s.f) else M.getD k [] := fun k hk => by
  rw [List.getD, List.getElem?_set]
  by_cases e : s.n = k
  ·rw [if_pos e, if_pos (by omega), if_pos e]; rfl
  ·rw [if_neg e, if_neg e]; rfl
 refine ⟨by simpa using hl, fun k hk => ?_, fun k j hk hj => ?_⟩
 ·rw [e k hk]
  split
  ·rw [setR_len, h.row _ h1]
  ·exact h.row k hk
 ·unfold mt2
  rw [e k hk]
  have hc : Cv (L ++ [s]) k j ↔ Cv L k j ∨ (s.n = k ∧ s.f ≤ j ∧ j < s.o) := by
   unfold Cv
   constructor
   ·rintro ⟨d, hd, g⟩
    rcases List.mem_append.1 hd with hd | hd
    ·exact .inl ⟨d, hd, g⟩
    ·rw [List.mem_singleton] at hd
     subst hd; exact .inr g
   ·rintro (⟨d, hd, g⟩ | g)
    ·exact ⟨d, List.mem_append_left _ hd, g⟩
    ·exact ⟨s, by simp, g⟩
  rw [hc]
  have hcv := h.cov k j hk hj
  unfold mt2 at hcv
  by_cases es : s.n = k
  ·rw [if_pos es, setR_at _ _ _ _ (by rw [h.row _ h1]; exact hj), es, Bool.or_eq_true, decide_eq_true_iff, hcv]
   constructor
   ·rintro (g | g)
    ·exact .inr ⟨rfl, by omega, by omega⟩
    ·exact .inl g
   ·rintro (g | ⟨_, g1, g2⟩)
    ·exact .inr g
    ·exact .inl ⟨by omega, by omega⟩
  ·rw [if_neg es, hcv]
   constructor
   ·exact .inl
   ·rintro (g | ⟨g, _⟩)
    ·exact g
    ·exact absurd g es
/-! the numbers of a line's bands -/
theorem plac_idx {L : List (Int × Int)} (hs : StB L) {x t : Int} (hm : (x, t) ∈ L) : placP L x = (idxP (fun b => decide (b = (x, t))) L).toNat ∧ placP L x < L.length ∧ (L.getD (placP L x) (0, 0)) = (x, t) := by
 obtain ⟨i, hi, he⟩ := List.getElem_of_mem hm
 have hp := List.pairwise_iff_getElem.1 hs
 have hne : ∀ j (hj : j < L.length), j ≠ i → L[j].1 ≠ x := fun j hj hn e => by
  have e2 : L[i].1 = x := by rw [he]
  rcases Nat.lt_or_ge j i with h | h
  ·have := hp j i hj hi h; omega
  ·have := hp i j hi hj (by omega); omega
 have e1 : placP L x = i := by
  unfold placP
  rw [List.findIdx_eq hi]
  refine ⟨by rw [he]; simp, fun j hj => ?_⟩
  simpa using hne j (by omega) (by omega)
 have e2 : idxP (fun b => decide (b = (x, t))) L = (i : Int) := idxP_at hi (by rw [he]; simp) fun j hj h => by
  rw [decide_eq_false_iff_not]
  intro e
  exact hne j hj (by omega) (by rw [e])
 rw [e1, e2]
 refine ⟨by omega, hi, ?_⟩
 simp [List.getD, hi, he]
theorem cov_idx {oth : List (Int × Int)} (hs : SepB oth) (h1 : ∀ x ∈ oth, 1 ≤ x.2) (r : Ru) : covA r oth = idxP (fun b => decide (b.1 = r.f)) oth ∧ covB r oth = idxP (fun b => decide (b.1 + b.2 = r.o)) oth := by
 have hp := List.pairwise_iff_getElem.1 hs
 constructor
 ·refine lst_idx fun i j hi hj e1 e2 => ?_
  rw [decide_eq_true_iff] at e1 e2
  have g1 := h1 _ (List.getElem_mem hi)
  have g2 := h1 _ (List.getElem_mem hj)
  rcases Nat.lt_trichotomy i j with h | h | h
  ·have := hp i j hi hj h; omega
  ·exact h
  ·have := hp j i hj hi h; omega
 ·refine lst_idx fun i j hi hj e1 e2 => ?_
  rw [decide_eq_true_iff] at e1 e2
  have g1 := h1 _ (List.getElem_mem hi)
  have g2 := h1 _ (List.getElem_mem hj)
  rcases Nat.lt_trichotomy i j with h | h | h
  ·have := hp i j hi hj h; omega
  ·exact h
  ·have := hp j i hj hi h; omega
/-- one direction, one line: what cover says, in spans -/
theorem cov_one {own oth : List (Int × Int)} {M : List (List Bool)} {L : List Sp} {r : Ru} (ho : StB own) (hs : SepB oth) (h1 : ∀ x ∈ oth, 1 ≤ x.2) (hm : (r.a, r.t) ∈ own) (hM : Rep M L own.length (oth.length - 1)) (hL : ∀ d ∈ L, d.f < d.o) :
  (covE r oth (M.getD (placP own r.a) []) = none → ¬ (spnB own oth r = true ∧ ∀ d ∈ L, Disj d (spnO own oth r))) ∧
  (∀ c, covE r oth (M.getD (placP own r.a) []) = some c → (spnB own oth r = true ∧ ∀ d ∈ L, Disj d (spnO own oth r)) ∧ Rep (M.set (placP own r.a) c) (L ++ [spnO own oth r]) own.length (oth.length - 1)) := by
 obtain ⟨p1, p2, p3⟩ := plac_idx ho hm
 obtain ⟨q1, q2⟩ := cov_idx hs h1 r
 have en : (spnO own oth r).n = placP own r.a := p1.symm
 have hb : spnB own oth r = true ↔ ¬ (covA r oth < 0 ∨ covB r oth ≤ covA r oth) := by
  unfold spnB spnI
  rw [decide_eq_true_iff, q1, q2]
  dsimp only
  omega
 unfold covE
 by_cases hc : covA r oth < 0 ∨ covB r oth ≤ covA r oth
 ·rw [if_pos hc]
  exact ⟨fun _ h => (hb.1 h.1) hc, fun c h => by cases h⟩
 ·rw [if_neg hc]
  have hB := hb.2 hc
  have ef : (spnO own oth r).f = (covA r oth).toNat := by rw [q1]; rfl
  have eo : (spnO own oth r).o = (covB r oth).toNat := by rw [q2]; rfl
  have hlt := (idxP_lt (fun b => decide (b.1 + b.2 = r.o)) oth).2
  rw [← q2] at hlt
  have h2 : (spnO own oth r).f < (spnO own oth r).o := by omega
  have h3 : (spnO own oth r).o ≤ oth.length - 1 := by omega
  have h0 : (spnO own oth r).n < own.length := by omega
  have ha := hM.any hL h0 h2 h3
  have hput := hM.put h0 h3 h2
  have ew : (covB r oth - covA r oth).toNat = (spnO own oth r).o - (spnO own oth r).f := by omega
  rw [ew, ← ef, ← en]
  by_cases hA : anyR (M.getD (spnO own oth r).n []) (spnO own oth r).f ((spnO own oth r).o - (spnO own oth r).f) = true
  ·rw [if_pos hA]
   exact ⟨fun _ h => ha.1 hA h.2, fun c h => by cases h⟩
  ·rw [if_neg hA]
   refine ⟨fun h => (by cases h), fun c h => ?_⟩
   obtain rfl := Option.some.inj h
   exact ⟨⟨hB, Classical.byContradiction fun hn => hA (ha.2 hn)⟩, hput⟩
/-! all lines -/
def Good (H V : List (Int × Int)) (l : List Ru) : Prop := (spnA l false H V = true ∧ (spnL l false H V).Pairwise Disj) ∧ spnA l true V H = true ∧ (spnL l true V H).Pairwise Disj
def outS (N : Nat) (s : Sp) : Bool := decide (s.n = 0 ∨ s.n + 1 = N)
def cntO (N : Nat) (L : List Sp) : Nat := L.countP (outS N)
theorem ofV_snoc (l : List Ru) (r : Ru) (v : Bool) : ofV (l ++ [r]) v = ofV l v ++ (if r.v = v then [r] else []) := by
 unfold ofV
 rw [List.filter_append, List.filter_cons]
 by_cases h : r.v = v
 ·rw [if_pos h, if_pos (by simpa using h)]; rfl
 ·rw [if_neg h, if_neg (by simpa using h)]; rfl
theorem spnA_snoc (l : List Ru) (r : Ru) (v : Bool) (own oth : List (Int × Int)) : spnA (l ++ [r]) v own oth = (spnA l v own oth && if r.v = v then spnB own oth r else true) := by
 unfold spnA
 rw [ofV_snoc, List.all_append]
 split <;> simp
theorem spnL_snoc (l : List Ru) (r : Ru) (v : Bool) (own oth : List (Int × Int)) : spnL (l ++ [r]) v own oth = spnL l v own oth ++ (if r.v = v then [spnO own oth r] else []) := by
 unfold spnL
 rw [ofV_snoc, List.map_append]
 split <;> simp
theorem pair_snoc {L : List Sp} {s : Sp} : (L ++ [s]).Pairwise Disj ↔ L.Pairwise Disj ∧ ∀ d ∈ L, Disj d s := by
 rw [List.pairwise_append]
 simp
theorem out_idx {L : List (Int × Int)} (hs : StB L) {r : Ru} (hm : (r.a, r.t) ∈ L) (oth : List (Int × Int)) : outP L r.a = outS L.length (spnO L oth r) := by
 obtain ⟨p1, p2, p3⟩ := plac_idx hs hm
 have en : (spnO L oth r).n = placP L r.a := p1.symm
 unfold outP outS
 rw [en]
 congr 1
 rw [eq_iff_iff]
 generalize placP L r.a = k at *
 have hk : L[k] = (r.a, r.t) := by simpa [List.getD, p2] using p3
 have hp := List.pairwise_iff_getElem.1 hs
 have h0 : L.getD 0 (0, 0) = L[0] := by simp [List.getD, show 0 < L.length by omega]
 have hN : L.getD (L.length - 1) (0, 0) = L[L.length - 1] := by simp [List.getD, show L.length - 1 < L.length by omega]
 rw [h0, hN]
 have ek : L[k].1 = r.a := by rw [hk]
 rw [← ek]
 constructor
 ·rintro (h | h)
  ·by_cases e : k = 0
   ·exact .inl e
   ·have := hp 0 k (by omega) p2 (by omega); omega
  ·by_cases e : k + 1 = L.length
   ·exact .inr e
   ·have := hp k (L.length - 1) p2 (by omega) (by omega); omega
 ·rintro (h | h)
  ·subst h; exact .inl rfl
  ·have : k = L.length - 1 := by omega
   subst this; exact .inr rfl
/-- what the frame is behind some lines -/
structure FsOk (H V : List (Int × Int)) (l : List Ru) (s : Fs) : Prop where
 good : Good H V l
 o : Rep s.O (spnL l false H V) H.length (V.length - 1)
 sd : Rep s.S (spnL l true V H) V.length (H.length - 1)
 n : s.n = cntO H.length (spnL l false H V) + cntO V.length (spnL l true V H)
theorem spnL_lt {l : List Ru} {v : Bool} {own oth : List (Int × Int)} (h : spnA l v own oth = true) : ∀ s ∈ spnL l v own oth, s.f < s.o := spn_lt h
theorem cnt_snoc (N : Nat) (L : List Sp) (s : Sp) : cntO N (L ++ [s]) = cntO N L + if outS N s then 1 else 0 := by
 unfold cntO
 rw [List.countP_append]
 by_cases h : outS N s = true <;> simp [h]
theorem frm_step {H V : List (Int × Int)} (hH : SepB H) (hV : SepB V) (sH : StB H) (sV : StB V) (h1 : ∀ x ∈ H, 1 ≤ x.2) (h2 : ∀ x ∈ V, 1 ≤ x.2) {l : List Ru} {s : Fs} {r : Ru} (hm : (r.a, r.t) ∈ if r.v then V else H) (h : FsOk H V l s) :
  (frmS H V s r = none → ¬ Good H V (l ++ [r])) ∧ ∀ s', frmS H V s r = some s' → FsOk H V (l ++ [r]) s' := by
 obtain ⟨⟨⟨g1, g2⟩, g3, g4⟩, hO, hS, hn⟩ := h
 unfold frmS
 by_cases hv : r.v = true
 ·rw [if_pos hv] at hm
  rw [if_pos hv]
  have hv' : ¬ r.v = false := by rw [hv]; simp
  obtain ⟨c1, c2⟩ := cov_one sV hH h1 hm hS (spnL_lt g3)
  constructor
  ·intro he
   rw [Option.map_eq_none_iff] at he
   rintro ⟨-, k1, k2⟩
   refine c1 he ?_
   rw [spnA_snoc, if_pos hv, Bool.and_eq_true] at k1
   rw [spnL_snoc, if_pos hv, pair_snoc] at k2
   exact ⟨k1.2, k2.2⟩
  ·intro s' he
   obtain ⟨c, hc, rfl⟩ := Option.map_eq_some_iff.1 he
   obtain ⟨⟨d1, d2⟩, d3⟩ := c2 c hc
   have e1 : spnL (l ++ [r]) false H V = spnL l false H V := by rw [spnL_snoc, if_neg hv', List.append_nil]
   have e2 : spnL (l ++ [r]) true V H = spnL l true V H ++ [spnO V H r] := by rw [spnL_snoc, if_pos hv]
   refine ⟨⟨⟨?_, ?_⟩, ?_, ?_⟩, ?_, ?_, ?_⟩
   ·rw [spnA_snoc, if_neg hv', g1]; rfl
   ·rw [e1]; exact g2
   ·rw [spnA_snoc, if_pos hv, g3, d1]; rfl
   ·rw [e2, pair_snoc]; exact ⟨g4, d2⟩
   ·rw [e1]; exact hO
   ·rw [e2]; exact d3
   ·rw [e1, e2, cnt_snoc, ← out_idx sV hm H, ← Nat.add_assoc, ← hn]
 ·have hv' : r.v = false := by simpa using hv
  rw [if_neg hv] at hm
  rw [if_neg hv]
  obtain ⟨c1, c2⟩ := cov_one sH hV h2 hm hO (spnL_lt g1)
  constructor
  ·intro he
   rw [Option.map_eq_none_iff] at he
   rintro ⟨⟨k1, k2⟩, -⟩
   refine c1 he ?_
   rw [spnA_snoc, if_pos hv', Bool.and_eq_true] at k1
   rw [spnL_snoc, if_pos hv', pair_snoc] at k2
   exact ⟨k1.2, k2.2⟩
  ·intro s' he
   obtain ⟨c, hc, rfl⟩ := Option.map_eq_some_iff.1 he
   obtain ⟨⟨d1, d2⟩, d3⟩ := c2 c hc
   have e1 : spnL (l ++ [r]) true V H = spnL l true V H := by rw [spnL_snoc, if_neg hv, List.append_nil]
   have e2 : spnL (l ++ [r]) false H V = spnL l false H V ++ [spnO H V r] := by rw [spnL_snoc, if_pos hv']
   refine ⟨⟨⟨?_, ?_⟩, ?_, ?_⟩, ?_, ?_, ?_⟩
   ·rw [spnA_snoc, if_pos hv', g1, d1]; rfl
   ·rw [e2, pair_snoc]; exact ⟨g2, d2⟩
   ·rw [spnA_snoc, if_neg hv, g3]; rfl
   ·rw [e1]; exact g4
   ·rw [e2]; exact d3
   ·rw [e1]; exact hS
   ·rw [e1, e2, cnt_snoc, ← out_idx sH hm V, hn]; dsimp only; omega
theorem good_pre {H V : List (Int × Int)} {l : List Ru} {r : Ru} (h : Good H V (l ++ [r])) : Good H V l := by
 obtain ⟨⟨g1, g2⟩, g3, g4⟩ := h
 rw [spnA_snoc, Bool.and_eq_true] at g1 g3
 rw [spnL_snoc] at g2 g4
 exact ⟨⟨g1.1, (List.pairwise_append.1 g2).1⟩, g3.1, (List.pairwise_append.1 g4).1⟩
def frmK (H V : List (Int × Int)) (l : List Ru) (i : Nat) : Option Fs := frmL H V (l.take i)
theorem frmK_succ {H V : List (Int × Int)} {l : List Ru} {i : Nat} (h : i < l.length) : frmK H V l (i + 1) = (frmK H V l i).bind fun s => frmS H V s l[i] := by
 unfold frmK frmL
 rw [List.take_succ_eq_append_getElem h, List.foldl_append]; rfl
theorem frm_all {H V : List (Int × Int)} (hH : SepB H) (hV : SepB V) (sH : StB H) (sV : StB V) (h1 : ∀ x ∈ H, 1 ≤ x.2) (h2 : ∀ x ∈ V, 1 ≤ x.2) {l : List Ru} (hm : ∀ r ∈ l, (r.a, r.t) ∈ if r.v then V else H) : ∀ i, i ≤ l.length →
  (frmK H V l i = none → ¬ Good H V (l.take i)) ∧ ∀ s, frmK H V l i = some s → FsOk H V (l.take i) s
 | 0, _ => by
  refine ⟨fun h => by simp [frmK, frmL] at h, fun s h => ?_⟩
  have e : s = frm0 H V := by simpa [frmK, frmL] using h.symm
  subst e
  refine ⟨⟨⟨rfl, List.Pairwise.nil⟩, rfl, List.Pairwise.nil⟩, Rep.start _ _, Rep.start _ _, rfl⟩
 | i + 1, hi => by
  obtain ⟨a1, a2⟩ := frm_all hH hV sH sV h1 h2 hm i (by omega)
  have hl : i < l.length := by omega
  rw [frmK_succ hl, List.take_succ_eq_append_getElem hl]
  cases e : frmK H V l i with
  | none => exact ⟨fun _ h => a1 e (good_pre h), fun s h => by cases h⟩
  | some s => exact frm_step hH hV sH sV h1 h2 (hm _ (List.getElem_mem hl)) (a2 s e)
end Go.Proofs.Ytjfgklhifhaaoaa
/- Tables in plain lists: ruling lines as the reference finds them. Conditions: none. -/
namespace Go.Proofs.Ytjfgklhifhaaoaa
end Go.Proofs.Ytjfgklhifhaaoaa
/- Tables in plain lists: the cells that the reference finds are those of the package's search. Conditions: separations that are told by two functions, the outer ones all there. -/
namespace Go.Proofs.Ytjfgklhifhaaoaa
/-- separations of places, told by the rows that bands cover (O) and the columns that strips cover (S) -/
structure Sepn (p : Pl) (O S : Nat → Nat → Bool) : Prop where
 r : ∀ r c, r < p.rows → c < p.cols → at0 p.R (r * p.cols + c) = S (c + 1) r
 b : ∀ r c, r < p.rows → c < p.cols → at0 p.B (r * p.cols + c) = O (r + 1) c
 s0 : ∀ r, r < p.rows → S 0 r = true
 sN : ∀ r, r < p.rows → S p.cols r = true
 o0 : ∀ c, c < p.cols → O 0 c = true
 oN : ∀ c, c < p.cols → O p.rows c = true
theorem pl_div {C r c : Nat} (h : c < C) : (r * C + c) / C = r := by
 rw [Nat.add_comm, Nat.add_mul_div_right _ _ (by omega), Nat.div_eq_of_lt h, Nat.zero_add]
theorem pl_mod {C r c : Nat} (h : c < C) : (r * C + c) % C = c := by
 rw [Nat.add_comm, Nat.add_mul_mod_self_right, Nat.mod_eq_of_lt h]
theorem pl_lt {R C r c : Nat} (hr : r < R) (hc : c < C) : r * C + c < R * C := by
 have : (r + 1) * C ≤ R * C := Nat.mul_le_mul_right _ hr
 rw [Nat.add_mul, Nat.one_mul] at this
 omega
theorem pl_split {R C x : Nat} (h : x < R * C) : ∃ r c, r < R ∧ c < C ∧ x = r * C + c := by
 have hC : 0 < C := Nat.pos_of_ne_zero fun e => by rw [e, Nat.mul_zero] at h; omega
 exact ⟨x / C, x % C, Nat.div_lt_of_lt_mul (by rw [Nat.mul_comm]; exact h), Nat.mod_lt _ hC, by rw [Nat.mul_comm]; exact (Nat.div_add_mod x C).symm⟩
theorem pl_inj {C r c r' c' : Nat} (h : c < C) (h' : c' < C) (e : r * C + c = r' * C + c') : r = r' ∧ c = c' := by
 have e1 := congrArg (· / C) e
 have e2 := congrArg (· % C) e
 rw [pl_div h, pl_div h'] at e1
 rw [pl_mod h, pl_mod h'] at e2
 exact ⟨e1, e2⟩
theorem pl_up {C r c : Nat} (h : 0 < r) : r * C + c - C = (r - 1) * C + c := by
 obtain ⟨r, rfl⟩ : ∃ k, r = k + 1 := ⟨r - 1, by omega⟩
 rw [Nat.add_sub_cancel, Nat.add_mul, Nat.one_mul]; omega
theorem pl_dn {C r c : Nat} : r * C + c + C = (r + 1) * C + c := by
 rw [Nat.add_mul, Nat.one_mul]; omega
theorem nxt_iff {p : Pl} {O S : Nat → Nat → Bool} (h : Sepn p O S) {r c y : Nat} (hr : r < p.rows) (hc : c < p.cols) : y ∈ nxtL p (r * p.cols + c) ↔
  ((0 < c ∧ S c r = false) ∧ y = r * p.cols + (c - 1)) ∨ ((c + 1 < p.cols ∧ S (c + 1) r = false) ∧ y = r * p.cols + (c + 1)) ∨
  ((0 < r ∧ O r c = false) ∧ y = (r - 1) * p.cols + c) ∨ ((r + 1 < p.rows ∧ O (r + 1) c = false) ∧ y = (r + 1) * p.cols + c) := by
 unfold nxtL
 rw [pl_div hc, pl_mod hc]
 simp only [List.mem_append]
 have e1 : (0 < c ∧ at0 p.R (r * p.cols + c - 1) = false) ↔ (0 < c ∧ S c r = false) := by
  constructor
  ·rintro ⟨h1, h2⟩
   rw [show r * p.cols + c - 1 = r * p.cols + (c - 1) by omega, h.r r (c - 1) hr (by omega), show c - 1 + 1 = c by omega] at h2
   exact ⟨h1, h2⟩
  ·rintro ⟨h1, h2⟩
   refine ⟨h1, ?_⟩
   rw [show r * p.cols + c - 1 = r * p.cols + (c - 1) by omega, h.r r (c - 1) hr (by omega), show c - 1 + 1 = c by omega]
   exact h2
 have e3 : (0 < r ∧ at0 p.B (r * p.cols + c - p.cols) = false) ↔ (0 < r ∧ O r c = false) := by
  constructor
  ·rintro ⟨h1, h2⟩
   rw [pl_up h1, h.b (r - 1) c (by omega) hc, show r - 1 + 1 = r by omega] at h2
   exact ⟨h1, h2⟩
  ·rintro ⟨h1, h2⟩
   refine ⟨h1, ?_⟩
   rw [pl_up h1, h.b (r - 1) c (by omega) hc, show r - 1 + 1 = r by omega]
   exact h2
 have e2 : (c + 1 < p.cols ∧ at0 p.R (r * p.cols + c) = false) ↔ (c + 1 < p.cols ∧ S (c + 1) r = false) := by rw [h.r r c hr hc]
 have e4 : (r + 1 < p.rows ∧ at0 p.B (r * p.cols + c) = false) ↔ (r + 1 < p.rows ∧ O (r + 1) c = false) := by rw [h.b r c hr hc]
 have mm : ∀ (P : Prop) [Decidable P] (z : Nat), y ∈ (if P then [z] else []) ↔ P ∧ y = z := fun P _ z => by
  split <;> simp [*]
 rw [mm, mm, mm, mm, e1, e2, e3, e4, pl_dn, ← Nat.add_assoc]
 have hup : (0 < r ∧ O r c = false) ∧ y = r * p.cols + c - p.cols ↔ (0 < r ∧ O r c = false) ∧ y = (r - 1) * p.cols + c :=
  ⟨fun ⟨a, b⟩ => ⟨a, by rw [b, pl_up a.1]⟩, fun ⟨a, b⟩ => ⟨a, by rw [b, pl_up a.1]⟩⟩
 have hl : (0 < c ∧ S c r = false) ∧ y = r * p.cols + c - 1 ↔ (0 < c ∧ S c r = false) ∧ y = r * p.cols + (c - 1) :=
  ⟨fun ⟨a, b⟩ => ⟨a, by have := a.1; omega⟩, fun ⟨a, b⟩ => ⟨a, by have := a.1; omega⟩⟩
 rw [hup, hl]
 simp only [or_assoc]
theorem nxt_sym {p : Pl} {O S : Nat → Nat → Bool} (h : Sepn p O S) {x y : Nat} (hx : x < p.rows * p.cols) (hy : y ∈ nxtL p x) : x ∈ nxtL p y := by
 obtain ⟨r, c, hr, hc, rfl⟩ := pl_split hx
 rcases (nxt_iff h hr hc).1 hy with ⟨⟨h1, h2⟩, rfl⟩ | ⟨⟨h1, h2⟩, rfl⟩ | ⟨⟨h1, h2⟩, rfl⟩ | ⟨⟨h1, h2⟩, rfl⟩
 ·refine (nxt_iff h hr (by omega)).2 (.inr (.inl ⟨⟨by omega, ?_⟩, ?_⟩))
  ·rw [show c - 1 + 1 = c by omega]; exact h2
  ·omega
 ·refine (nxt_iff h hr h1).2 (.inl ⟨⟨by omega, h2⟩, ?_⟩)
  omega
 ·refine (nxt_iff h (by omega) hc).2 (.inr (.inr (.inr ⟨⟨by omega, ?_⟩, ?_⟩)))
  ·rw [show r - 1 + 1 = r by omega]; exact h2
  ·rw [show r - 1 + 1 = r by omega]
 ·refine (nxt_iff h h1 hc).2 (.inr (.inr (.inl ⟨⟨by omega, h2⟩, ?_⟩)))
  rw [Nat.add_sub_cancel]
/-! a rectangle of places -/
def InR (C t l b r : Nat) (x : Nat) : Prop := t ≤ x / C ∧ x / C < b ∧ l ≤ x % C ∧ x % C < r
theorem inR_at {C t l b r y x : Nat} (hx : x < C) : InR C t l b r (y * C + x) ↔ t ≤ y ∧ y < b ∧ l ≤ x ∧ x < r := by
 unfold InR
 rw [pl_div hx, pl_mod hx]
structure Rect (p : Pl) (O S : Nat → Nat → Bool) (t l b r : Nat) : Prop where
 tb : t < b
 lr : l < r
 bR : b ≤ p.rows
 rC : r ≤ p.cols
 sl : ∀ y, t ≤ y → y < b → S l y = true
 sr : ∀ y, t ≤ y → y < b → S r y = true
 si : ∀ y k, t ≤ y → y < b → l < k → k < r → S k y = false
 ot : ∀ x, l ≤ x → x < r → O t x = true
 ob : ∀ x, l ≤ x → x < r → O b x = true
 oi : ∀ x k, l ≤ x → x < r → t < k → k < b → O k x = false
theorem Rect.lt {p : Pl} {O S : Nat → Nat → Bool} {t l b r x : Nat} (h : Rect p O S t l b r) (hx : InR p.cols t l b r x) : x < p.rows * p.cols := by
 obtain ⟨h1, h2, h3, h4⟩ := hx
 have := pl_lt (R := p.rows) (C := p.cols) (r := x / p.cols) (c := x % p.cols) (Nat.lt_of_lt_of_le h2 h.bR) (Nat.lt_of_lt_of_le h4 h.rC)
 rwa [Nat.mul_comm, Nat.div_add_mod] at this
theorem Rect.closed {p : Pl} {O S : Nat → Nat → Bool} {t l b r : Nat} (hp : Sepn p O S) (h : Rect p O S t l b r) {x y : Nat} (hx : InR p.cols t l b r x) (hy : y ∈ nxtL p x) : InR p.cols t l b r y := by
 obtain ⟨a, c, ha, hc, rfl⟩ := pl_split (h.lt hx)
 rw [inR_at hc] at hx
 obtain ⟨h1, h2, h3, h4⟩ := hx
 have hrC := h.rC
 have hbR := h.bR
 rcases (nxt_iff hp ha hc).1 hy with ⟨⟨g1, g2⟩, rfl⟩ | ⟨⟨g1, g2⟩, rfl⟩ | ⟨⟨g1, g2⟩, rfl⟩ | ⟨⟨g1, g2⟩, rfl⟩
 ·rw [inR_at (by omega)]
  by_cases e : c = l
  ·rw [e, h.sl a h1 h2] at g2; cases g2
  ·omega
 ·rw [inR_at g1]
  by_cases e : c + 1 = r
  ·rw [e, h.sr a h1 h2] at g2; cases g2
  ·omega
 ·rw [inR_at hc]
  by_cases e : a = t
  ·rw [e, h.ot c h3 h4] at g2; cases g2
  ·omega
 ·rw [inR_at hc]
  by_cases e : a + 1 = b
  ·rw [e, h.ob c h3 h4] at g2; cases g2
  ·omega
theorem Rect.reach {p : Pl} {O S : Nat → Nat → Bool} {t l b r : Nat} (hp : Sepn p O S) (h : Rect p O S t l b r) {x : Nat} (hx : InR p.cols t l b r x) : Rch p (t * p.cols + l) x := by
  obtain ⟨a, c, ha, hc, rfl⟩ := pl_split (h.lt hx)
  rw [inR_at hc] at hx
  obtain ⟨h1, h2, h3, h4⟩ := hx
  have hrC := h.rC
  have hbR := h.bR
  have hlr := h.lr
  have down : ∀ k, t ≤ k → k < b → Rch p (t * p.cols + l) (k * p.cols + l) := fun k => by
    induction k with
    | zero => intro g1 _; obtain rfl : t = 0 := by omega
              exact .refl
    | succ k ih =>
      intro g1 g2
      by_cases e : t = k + 1
      · rw [e]; exact .refl
      · refine .next (ih (by omega) (by omega)) ((nxt_iff hp (by omega) (by omega)).2 (.inr (.inr (.inr ⟨⟨by omega, ?_⟩, rfl⟩))))
        exact h.oi l (k + 1) (Nat.le_refl _) hlr (by omega) g2
  have right : ∀ k, l ≤ k → k < r → Rch p (t * p.cols + l) (a * p.cols + k) := fun k => by
    induction k with
    | zero => intro g1 _; obtain rfl : l = 0 := by omega
              exact down a h1 h2
    | succ k ih =>
      intro g1 g2
      by_cases e : l = k + 1
      · rw [← e]; exact down a h1 h2
      · refine .next (ih (by omega) (by omega)) ((nxt_iff hp (by omega) (by omega)).2 (.inr (.inl ⟨⟨by omega, ?_⟩, rfl⟩)))
        exact h.si a (k + 1) h1 h2 (by omega) g2
  exact right c h3 h4
/-! marks that are closed under the search -/
def Clo (p : Pl) (m : List Bool) : Prop := ∀ x, x < p.rows * p.cols → ∀ y ∈ nxtL p x, at0 m x = at0 m y
theorem Rch.lt {p : Pl} {i x : Nat} (hi : i < p.rows * p.cols) (h : Rch p i x) : x < p.rows * p.cols := by
 induction h with
 | refl => exact hi
 | next _ hy ih => exact nxt_lt ih _ hy
theorem Clo.same {p : Pl} {m : List Bool} (hm : Clo p m) {i x : Nat} (hi : i < p.rows * p.cols) (h : Rch p i x) : at0 m x = at0 m i := by
 induction h with
 | refl => rfl
 | next hx hy ih => rw [← ih]; exact (hm _ (Rch.lt hi hx) _ hy).symm
theorem pnt_at0 {d : List Bool} {W X Y U V i : Nat} (h : i < d.length) : at0 (pntL d W X Y U V true) i = true ↔ InR W Y X V U i ∨ at0 d i = true := by
 have hl : i < (pntL d W X Y U V true).length := by rw [pntL_len]; exact h
 rw [at0_lt hl, at0_lt h]
 simp only [pntL, List.getElem_mapIdx]
 unfold InR
 split
 ·rename_i hc
  exact ⟨fun _ => .inl ⟨hc.2.2.1, hc.2.2.2, hc.1, hc.2.1⟩, fun _ => rfl⟩
 ·rename_i hc
  refine ⟨.inr, fun h => h.elim (fun h => absurd ⟨h.2.2.1, h.2.2.2, h.1, h.2.1⟩ hc) id⟩
theorem Clo.paint {p : Pl} {O S : Nat → Nat → Bool} {m : List Bool} {t l b r : Nat} (hp : Sepn p O S) (hm : Clo p m) (hl : m.length = p.rows * p.cols) (h : Rect p O S t l b r) : Clo p (pntL m p.cols l t r b true) := fun x hx y hy => by
 have hy2 := nxt_lt hx y hy
 rw [Bool.eq_iff_iff, pnt_at0 (by omega), pnt_at0 (by omega), hm x hx y hy]
 have h1 : InR p.cols t l b r x ↔ InR p.cols t l b r y := ⟨fun hx => h.closed hp hx hy, fun hy' => h.closed hp hy' (nxt_sym hp hx hy)⟩
 rw [h1]
/-! counting a rectangle -/
theorem cnt_row {d : List Bool} {W H X Y U V y : Nat} (hd : d.length = W * H) (hU : U ≤ W) (hV : V ≤ H) (h0 : ∀ x, InR W Y X V U x → at0 d x = false) (hy : Y ≤ y) (hyv : y < V) : ∀ k, X + k ≤ U →
  (pntP d W X Y U V true y X).countP (· == false) = (pntP d W X Y U V true y (X + k)).countP (· == false) + k
 | 0, _ => rfl
 | k + 1, hk => by
  rw [cnt_row hd hU hV h0 hy hyv k (by omega)]
  have hxw : X + k < W := by omega
  have hlt : y * W + (X + k) < d.length := by
   rw [hd]
   have := pl_lt (R := H) (C := W) (r := y) (c := X + k) (by omega) hxw
   rwa [Nat.mul_comm H W] at this
  have hl : y * W + (X + k) < (pntP d W X Y U V true y (X + k)).length := by rw [pntP_len]; exact hlt
  have hf : at0 (pntP d W X Y U V true y (X + k)) (y * W + (X + k)) = false := by
   rw [at0_lt hl]
   simp only [pntP, List.getElem_mapIdx]
   rw [if_neg]
   ·have := h0 (y * W + (X + k)) ((inR_at hxw).2 ⟨hy, hyv, by omega, by omega⟩)
    rwa [at0_lt hlt] at this
   ·rw [pl_div hxw, pl_mod hxw]; omega
  have := count_set hl hf
  rw [pntP_set d W X Y U V true y (X + k) hxw (by omega) (by omega) hy hyv] at this
  rw [show X + (k + 1) = X + k + 1 from rfl]
  omega
theorem cnt_rect {d : List Bool} {W H X Y U V : Nat} (hd : d.length = W * H) (hU : U ≤ W) (hV : V ≤ H) (hX : X ≤ U) (h0 : ∀ x, InR W Y X V U x → at0 d x = false) : ∀ k, Y + k ≤ V →
  d.countP (· == false) = (pntP d W X Y U V true (Y + k) X).countP (· == false) + k * (U - X)
 | 0, _ => by rw [Nat.add_zero, pntP_start, pntP_zero]; simp
 | k + 1, hk => by
  rw [cnt_rect hd hU hV hX h0 k (by omega), cnt_row hd hU hV h0 (by omega) (by omega) (U - X) (by omega), show X + (U - X) = U by omega, pntP_row _ _ _ _ _ _ _ _ _ (Nat.le_refl _), ← Nat.add_assoc, pntP_start _ _ _ _ _ _ _ (Y + k + 1), Nat.add_mul, Nat.one_mul]
  omega
theorem cnt_all {d : List Bool} {W H X Y U V : Nat} (hd : d.length = W * H) (hU : U ≤ W) (hV : V ≤ H) (hX : X ≤ U) (hY : Y ≤ V) (h0 : ∀ x, InR W Y X V U x → at0 d x = false) :
  d.countP (· == false) = (pntL d W X Y U V true).countP (· == false) + (V - Y) * (U - X) := by
 have := cnt_rect hd hU hV hX h0 (V - Y) (by omega)
 rwa [show Y + (V - Y) = V by omega, pntP_start, pntP_end _ _ _ _ _ _ _ _ (Nat.le_refl _)] at this
theorem ext_at0 {a b : List Bool} (hl : a.length = b.length) (h : ∀ i, i < a.length → (at0 a i = true ↔ at0 b i = true)) : a = b := by
 apply List.ext_getElem hl
 intro i h1 h2
 have := h i h1
 rw [at0_lt h1, at0_lt h2, ← Bool.eq_iff_iff] at this
 exact this
/-- fewer dark places and as many light ones: the same -/
theorem same_cnt : ∀ {a b : List Bool}, a.length = b.length → (∀ i, at0 a i = true → at0 b i = true) → a.countP (· == false) = b.countP (· == false) → a = b
 | [], [], _, _, _ => rfl
 | x :: a, y :: b, hl, h, hc => by
  have hi : ∀ i, at0 a i = true → at0 b i = true := fun i hi => h (i + 1) hi
  have h0 : x = true → y = true := fun e => h 0 (by rw [e]; rfl)
  have hle : ∀ {a b : List Bool}, a.length = b.length → (∀ i, at0 a i = true → at0 b i = true) → b.countP (· == false) ≤ a.countP (· == false) := fun {a} => by
   induction a with
   | nil => intro b hl _; obtain rfl : b = [] := List.eq_nil_of_length_eq_zero hl.symm; simp
   | cons x a ih =>
    intro b hl h
    match b, hl with
    | y :: b, hl =>
     have h1 := ih (b := b) (by simpa using hl) fun i hi => h (i + 1) hi
     have h2 : x = true → y = true := fun e => h 0 (by rw [e]; rfl)
     rw [List.countP_cons, List.countP_cons]
     cases x <;> cases y
     ·exact Nat.add_le_add_right h1 _
     ·rw [if_neg (by decide), if_pos (by decide)]; omega
     ·exact absurd (h2 rfl) (by decide)
     ·exact Nat.add_le_add_right h1 _
  have h1 := hle (by simpa using hl) hi
  rw [List.countP_cons, List.countP_cons] at hc
  have hxy : x = y := by
   cases x <;> cases y
   ·rfl
   ·rw [if_pos (by decide), if_neg (by decide)] at hc; omega
   ·exact absurd (h0 rfl) (by decide)
   ·rfl
  subst hxy
  rw [same_cnt (by simpa using hl) hi (by omega)]
/-! what the search finds of a rectangle -/
theorem find_rect {p : Pl} {O S : Nat → Nat → Bool} {m : List Bool} {t l b r : Nat} (hp : Sepn p O S) (hm : Clo p m) (hl : m.length = p.rows * p.cols) (h : Rect p O S t l b r) (h0 : at0 m (t * p.cols + l) = false) :
  (∀ x, InR p.cols t l b r x → at0 m x = false) ∧ celD p (findD p m (t * p.cols + l)) = some ⟨t, l, (b - t : Nat), (r - l : Nat), ⟨0, 0, 0, 0⟩⟩ ∧ (findD p m (t * p.cols + l)).met = pntL m p.cols l t r b true := by
 have hbR := h.bR
 have hrC := h.rC
 have htb := h.tb
 have hlr := h.lr
 have hi : t * p.cols + l < p.rows * p.cols := pl_lt (by omega) (by omega)
 have hun : ∀ x, InR p.cols t l b r x → at0 m x = false := fun x hx => (hm.same hi (h.reach hp hx)).trans h0
 have hself : InR p.cols t l b r (t * p.cols + l) := (inR_at (by omega)).2 ⟨by omega, by omega, by omega, by omega⟩
 have hC : ∀ x, InR p.cols t l b r x → x < p.rows * p.cols ∧ ∀ y ∈ nxtL p x, InR p.cols t l b r y := fun x hx => ⟨h.lt hx, fun y hy => h.closed hp hx hy⟩
 have hmet := find_met hl hi hself hun hC (fun x hx => h.reach hp hx)
 obtain ⟨hn, hbx, ⟨x1, c1, e1⟩, ⟨x2, c2, e2⟩, ⟨x3, c3, e3⟩, x4, c4, e4⟩ := find_box hl hi hself hun hC (fun x hx => h.reach hp hx)
 have hF := find_in hl hi h0
 have hmm : (findD p m (t * p.cols + l)).met = pntL m p.cols l t r b true := by
  refine ext_at0 (by rw [pntL_len, hF.len, hl]) fun i hi => ?_
  rw [pnt_at0 (by rw [hF.len] at hi; omega), hmet i]
  exact Or.comm
 have corner : ∀ y x, t ≤ y → y < b → l ≤ x → x < r → (findD p m (t * p.cols + l)).t ≤ y ∧ y ≤ (findD p m (t * p.cols + l)).b ∧ (findD p m (t * p.cols + l)).l ≤ x ∧ x ≤ (findD p m (t * p.cols + l)).r := fun y x g1 g2 g3 g4 => by
  have := hbx (y * p.cols + x) ((inR_at (by omega)).2 ⟨g1, g2, g3, g4⟩)
  rwa [pl_div (by omega), pl_mod (by omega)] at this
 have k1 := corner t l (by omega) (by omega) (by omega) (by omega)
 have k2 := corner (b - 1) (r - 1) (by omega) (by omega) (by omega) (by omega)
 have et : (findD p m (t * p.cols + l)).t = t := by have := c1.1; omega
 have eb : (findD p m (t * p.cols + l)).b = b - 1 := by have := c2.2.1; omega
 have el : (findD p m (t * p.cols + l)).l = l := by have := c3.2.2.1; omega
 have er : (findD p m (t * p.cols + l)).r = r - 1 := by have := c4.2.2.2; omega
 refine ⟨hun, ?_, hmm⟩
 have hcnt := cnt_all (d := m) (W := p.cols) (H := p.rows) (X := l) (Y := t) (U := r) (V := b) (by rw [hl, Nat.mul_comm]) hrC hbR (by omega) (by omega) hun
 rw [← hmm] at hcnt
 have en : (findD p m (t * p.cols + l)).n = (b - t) * (r - l) := by omega
 have hs : sepA p (findD p m (t * p.cols + l)) = false := sepA_miss fun row col g1 g2 g3 g4 => by
  rw [et] at g1
  rw [eb] at g2
  rw [el] at g3
  rw [er] at g4
  unfold sepD
  rw [er, eb, hp.r row col (by omega) (by omega), hp.b row col (by omega) (by omega)]
  have a1 : (decide (col < r - 1) && S (col + 1) row) = false := by
   by_cases e : col < r - 1
   ·rw [h.si row (col + 1) (by omega) (by omega) (by omega) (by omega), Bool.and_false]
   ·rw [decide_eq_false e]; rfl
  have a2 : (decide (row < b - 1) && O (row + 1) col) = false := by
   by_cases e : row < b - 1
   ·rw [h.oi col (row + 1) (by omega) (by omega) (by omega) (by omega), Bool.and_false]
   ·rw [decide_eq_false e]; rfl
  rw [a1, a2]; rfl
 unfold celD
 rw [hs, en, et, eb, el, er, show b - 1 + 1 - t = b - t by omega, show r - 1 + 1 - l = r - l by omega, if_pos rfl]
 rfl
/-- what the package's search accepts is a rectangle -/
theorem find_conv {p : Pl} {O S : Nat → Nat → Bool} {m : List Bool} {i : Nat} {ce : Ce} (hp : Sepn p O S) (hm : Clo p m) (hl : m.length = p.rows * p.cols) (hi : i < p.rows * p.cols) (h0 : at0 m i = false) (hb : ∀ x, x < i → at0 m x = true) (hc : celD p (findD p m i) = some ce) :
  ∃ b r, Rect p O S (i / p.cols) (i % p.cols) b r := by
 have hrl : ∀ x, Rch p i x → x < p.rows * p.cols := fun x hx => Rch.lt hi hx
 have hun : ∀ x, Rch p i x → at0 m x = false := fun x hx => (hm.same hi hx).trans h0
 have hC : ∀ x, Rch p i x → x < p.rows * p.cols ∧ ∀ y ∈ nxtL p x, Rch p i y := fun x hx => ⟨hrl x hx, fun y hy => .next hx hy⟩
 have hmet := find_met hl hi (.refl) hun hC (fun x hx => hx)
 obtain ⟨hn, hbx, -⟩ := find_box hl hi (.refl) hun hC (fun x hx => hx)
 have hF := find_in hl hi h0
 generalize findD p m i = F at *
 unfold celD at hc
 split at hc
 ·rename_i hcn
  split at hc
  ·cases hc
  ·rename_i hs
   have hs' : sepA p F = false := by simpa using hs
   obtain ⟨f1, f2, f3, f4, f5⟩ := hF
   -- the reached places fill the rectangle
   have key : ∀ x, InR p.cols F.t F.l (F.b + 1) (F.r + 1) x → Rch p i x := by
    have hz : ∀ x, at0 (List.replicate (p.rows * p.cols) false) x = false := fun x => by
     unfold at0
     rw [List.getD_eq_getElem?_getD]
     by_cases h : x < p.rows * p.cols
     ·rw [List.getElem?_eq_getElem (by simpa using h)]; simp
     ·rw [List.getElem?_eq_none (by simpa using h)]; rfl
    have hcnt := cnt_all (d := List.replicate (p.rows * p.cols) false) (W := p.cols) (H := p.rows) (X := F.l) (Y := F.t) (U := F.r + 1) (V := F.b + 1) (by simp [Nat.mul_comm]) (by omega) (by omega) (by omega) (by omega) (fun x _ => hz x)
    -- the reached places as marks
    obtain ⟨E, hE1, hE2, hE3⟩ : ∃ E : List Bool, E.length = p.rows * p.cols ∧ (∀ x, at0 E x = true ↔ Rch p i x) ∧ E.countP (· == false) + F.n = p.rows * p.cols := by
     have gen : ∀ (a b : List Bool), a.length = b.length → (∀ x, at0 a x = true → at0 b x = true) → (List.zipWith (fun u v => v && !u) a b).countP (· == false) + a.countP (· == false) = b.countP (· == false) + a.length := fun a => by
      induction a with
      | nil => intro b hl _; obtain rfl : b = [] := List.eq_nil_of_length_eq_zero hl.symm; rfl
      | cons u a ih =>
       intro b hl h
       match b, hl with
       | v :: b, hl =>
        have h1 := ih b (by simpa using hl) fun x hx => h (x + 1) hx
        have h2 : u = true → v = true := fun e => h 0 (by rw [e]; rfl)
        simp only [List.zipWith_cons_cons, List.countP_cons, List.length_cons]
        cases u <;> cases v <;> simp_all <;> omega
     refine ⟨List.zipWith (fun u v => v && !u) m F.met, by simp [f1, hl], fun x => ?_, ?_⟩
     ·by_cases hx : x < p.rows * p.cols
      ·rw [at0_lt (by simp [f1, hl]; exact hx), List.getElem_zipWith]
       have a1 := hmet x
       rw [at0_lt (by rw [f1]; exact hx), at0_lt (by rw [hl]; exact hx)] at a1
       have a2 := hun x
       rw [at0_lt (by rw [hl]; exact hx)] at a2
       generalize F.met[x]'(by rw [f1]; exact hx) = v at *
       generalize m[x]'(by rw [hl]; exact hx) = u at *
       rw [Bool.and_eq_true, Bool.not_eq_true']
       constructor
       ·rintro ⟨rfl, rfl⟩
        rcases a1.1 rfl with h | h
        ·cases h
        ·exact h
       ·intro h
        exact ⟨a1.2 (.inr h), a2 h⟩
      ·refine ⟨fun h => ?_, fun h => absurd (hrl x h) hx⟩
       unfold at0 at h
       rw [List.getD_eq_getElem?_getD, List.getElem?_eq_none (by simp [f1, hl]; omega)] at h
       cases h
     ·have := gen m F.met (by rw [f1, hl]) fun x hx => (hmet x).2 (.inl hx)
      omega
    have hsame : E = pntL (List.replicate (p.rows * p.cols) false) p.cols F.l F.t (F.r + 1) (F.b + 1) true := by
     refine same_cnt (by rw [pntL_len, hE1]; simp) (fun x hx => ?_) ?_
     ·have hr := (hE2 x).1 hx
      rw [pnt_at0 (by simpa using hrl x hr)]
      have := hbx x hr
      exact .inl ⟨by omega, by omega, by omega, by omega⟩
     ·have : (List.replicate (p.rows * p.cols) false).countP (· == false) = p.rows * p.cols := by simp [List.countP_replicate]
      rw [this] at hcnt
      omega
    intro x hx
    rw [← hE2 x, hsame]
    have hxl : x < p.rows * p.cols := by
     have := pl_lt (R := p.rows) (C := p.cols) (r := x / p.cols) (c := x % p.cols) (by have := hx.2.1; omega) (by have := hx.2.2.2; omega)
     rwa [Nat.mul_comm, Nat.div_add_mod] at this
    exact (pnt_at0 (by simpa using hxl)).2 (.inl hx)
   have bnd : ∀ y x, x < p.cols → Rch p i (y * p.cols + x) → F.t ≤ y ∧ y ≤ F.b ∧ F.l ≤ x ∧ x ≤ F.r := fun y x hx h => by
    have := hbx _ h
    rwa [pl_div hx, pl_mod hx] at this
   have full : ∀ y x, F.t ≤ y → y ≤ F.b → F.l ≤ x → x ≤ F.r → Rch p i (y * p.cols + x) := fun y x g1 g2 g3 g4 => key _ ((inR_at (by omega)).2 ⟨g1, by omega, g3, by omega⟩)
   -- the first place is the corner
   have hfirst : ∀ x, Rch p i x → i ≤ x := fun x hx => by
    rcases Nat.lt_or_ge x i with h | h
    ·have := hb x h
     rw [hun x hx] at this; cases this
    ·exact h
   obtain ⟨a, c, ha, hc', hic⟩ := pl_split hi
   have hself := hbx i .refl
   have hdi : i / p.cols = a := by rw [hic]; exact pl_div hc'
   have hmi : i % p.cols = c := by rw [hic]; exact pl_mod hc'
   rw [hdi, hmi] at hself ⊢
   have hle := hfirst _ (full F.t F.l (Nat.le_refl _) f2 (Nat.le_refl _) f4)
   have hta : F.t = a := by
    rcases Nat.lt_or_ge F.t a with h | h
    ·have h2 : (F.t + 1) * p.cols ≤ a * p.cols := Nat.mul_le_mul_right _ h
     rw [Nat.add_mul, Nat.one_mul] at h2
     omega
    ·omega
   have hlc : F.l = c := by rw [hta] at hle; omega
   rw [← hta, ← hlc]
   have hsep : ∀ row col, F.t ≤ row → row ≤ F.b → F.l ≤ col → col ≤ F.r → sepD p F row col = false := fun row col g1 g2 g3 g4 => by
    cases e : sepD p F row col
    ·rfl
    ·rw [sepA_hit ⟨g1, g2⟩ ⟨g3, g4⟩ e] at hs'; cases hs'
   refine ⟨F.b + 1, F.r + 1, by omega, by omega, by omega, by omega, ?_, ?_, ?_, ?_, ?_, ?_⟩
   ·intro y g1 g2
    by_cases e : F.l = 0
    ·rw [e]; exact hp.s0 y (by omega)
    ·cases es : S F.l y
     ·have := bnd y (F.l - 1) (by omega) (.next (full y F.l g1 (by omega) (Nat.le_refl _) f4) ((nxt_iff hp (by omega) (by omega)).2 (.inl ⟨⟨by omega, es⟩, rfl⟩)))
      omega
     ·rfl
   ·intro y g1 g2
    by_cases e : F.r + 1 = p.cols
    ·rw [e]; exact hp.sN y (by omega)
    ·cases es : S (F.r + 1) y
     ·have := bnd y (F.r + 1) (by omega) (.next (full y F.r g1 (by omega) f4 (Nat.le_refl _)) ((nxt_iff hp (by omega) (by omega)).2 (.inr (.inl ⟨⟨by omega, es⟩, rfl⟩))))
      omega
     ·rfl
   ·intro y k g1 g2 g3 g4
    have := hsep y (k - 1) g1 (by omega) (by omega) (by omega)
    unfold sepD at this
    rw [Bool.or_eq_false_iff, decide_eq_true (show k - 1 < F.r by omega), Bool.true_and, hp.r y (k - 1) (by omega) (by omega), show k - 1 + 1 = k by omega] at this
    exact this.1
   ·intro x g1 g2
    by_cases e : F.t = 0
    ·rw [e]; exact hp.o0 x (by omega)
    ·cases es : O F.t x
     ·have := bnd (F.t - 1) x (by omega) (.next (full F.t x (Nat.le_refl _) f2 g1 (by omega)) ((nxt_iff hp (by omega) (by omega)).2 (.inr (.inr (.inl ⟨⟨by omega, es⟩, rfl⟩)))))
      omega
     ·rfl
   ·intro x g1 g2
    by_cases e : F.b + 1 = p.rows
    ·rw [e]; exact hp.oN x (by omega)
    ·cases es : O (F.b + 1) x
     ·have := bnd (F.b + 1) x (by omega) (.next (full F.b x f2 (Nat.le_refl _) g1 (by omega)) ((nxt_iff hp (by omega) (by omega)).2 (.inr (.inr (.inr ⟨⟨by omega, es⟩, rfl⟩)))))
      omega
     ·rfl
   ·intro x k g1 g2 g3 g4
    have := hsep (k - 1) x (by omega) (by omega) g1 (by omega)
    unfold sepD at this
    rw [Bool.or_eq_false_iff, decide_eq_true (show k - 1 < F.b by omega), Bool.true_and, hp.b (k - 1) x (by omega) (by omega), show k - 1 + 1 = k by omega] at this
    exact this.2
 ·cases hc
end Go.Proofs.Ytjfgklhifhaaoaa
/- Tables in plain lists: the reference's Grid, and that the package's Grid answers the same. Conditions: none. -/
namespace Go.Proofs.Ytjfgklhifhaaoaa
/-! cells -/
def endC (S : Nat → Nat → Bool) (cols r c : Nat) : Nat := endR (fun k => !S k r) (c + 1) (cols - (c + 1))
def endO (O : Nat → Nat → Bool) (rows r c : Nat) : Nat := endR (fun k => !O k c) (r + 1) (rows - (r + 1))
def chkS (S : Nat → Nat → Bool) (r re c ce : Nat) : Bool := (List.range' r (re - r)).all fun y => (List.range' c (ce + 1 - c)).all fun k => S k y == (k == c || k == ce)
def chkO (O : Nat → Nat → Bool) (r re c ce : Nat) : Bool := (List.range' c (ce - c)).all fun k => (List.range' r (re + 1 - r)).all fun y => O y k == (y == r || y == re)
def celR (O S : Nat → Nat → Bool) (rows cols r c : Nat) : Option (Nat × Nat) :=
 if chkS S r (endO O rows r c) c (endC S cols r c) && chkO O r (endO O rows r c) c (endC S cols r c) then some (endO O rows r c, endC S cols r c) else none
theorem chkS_iff {S : Nat → Nat → Bool} {r re c ce : Nat} : chkS S r re c ce = true ↔ ∀ y k, r ≤ y → y < re → c ≤ k → k ≤ ce → S k y = (k == c || k == ce) := by
 unfold chkS
 simp only [List.all_eq_true, List.mem_range'_1, beq_iff_eq]
 exact ⟨fun h y k h1 h2 h3 h4 => h y ⟨h1, by omega⟩ k ⟨h3, by omega⟩, fun h y hy k hk => h y k hy.1 (by omega) hk.1 (by omega)⟩
theorem chkO_iff {O : Nat → Nat → Bool} {r re c ce : Nat} : chkO O r re c ce = true ↔ ∀ k y, c ≤ k → k < ce → r ≤ y → y ≤ re → O y k = (y == r || y == re) := by
 unfold chkO
 simp only [List.all_eq_true, List.mem_range'_1, beq_iff_eq]
 exact ⟨fun h k y h1 h2 h3 h4 => h k ⟨h1, by omega⟩ y ⟨h3, by omega⟩, fun h k hk y hy => h k y hk.1 (by omega) hy.1 (by omega)⟩
theorem celR_rect {p : Pl} {O S : Nat → Nat → Bool} {r c re ce : Nat} (hr : r < p.rows) (hc : c < p.cols) (h : celR O S p.rows p.cols r c = some (re, ce)) : Rect p O S r c re ce := by
 unfold celR at h
 split at h
 ·rename_i hk
  obtain ⟨rfl, rfl⟩ : endO O p.rows r c = re ∧ endC S p.cols r c = ce := by simpa using h
  rw [Bool.and_eq_true, chkS_iff, chkO_iff] at hk
  obtain ⟨g1, g2⟩ := endR_ge (fun k => !S k r) (p.cols - (c + 1)) (c + 1)
  obtain ⟨g3, g4⟩ := endR_ge (fun k => !O k c) (p.rows - (r + 1)) (r + 1)
  unfold endC endO at *
  generalize endR (fun k => !S k r) (c + 1) (p.cols - (c + 1)) = ce at *
  generalize endR (fun k => !O k c) (r + 1) (p.rows - (r + 1)) = re at *
  obtain ⟨h1, h2⟩ := hk
  refine ⟨by omega, by omega, by omega, by omega, ?_, ?_, ?_, ?_, ?_, ?_⟩
  ·intro y a b
   rw [h1 y c a b (Nat.le_refl _) (by omega)]; simp
  ·intro y a b
   rw [h1 y ce a b (by omega) (Nat.le_refl _)]; simp
  ·intro y k a b d e
   rw [h1 y k a b (by omega) (by omega)]
   simp; omega
  ·intro x a b
   rw [h2 x r a b (Nat.le_refl _) (by omega)]; simp
  ·intro x a b
   rw [h2 x re a b (by omega) (Nat.le_refl _)]; simp
  ·intro x k a b d e
   rw [h2 x k a b (by omega) (by omega)]
   simp; omega
 ·cases h
theorem rect_celR {p : Pl} {O S : Nat → Nat → Bool} {r c re ce : Nat} (h : Rect p O S r c re ce) : celR O S p.rows p.cols r c = some (re, ce) := by
 obtain ⟨a1, a2, a3, a4, sl, sr, si, ot, ob, oi⟩ := h
 have e1 : endC S p.cols r c = ce := endR_uni (by omega) (by omega) (fun x g1 g2 => by rw [si r x (Nat.le_refl _) a1 (by omega) g2]; rfl) (fun _ => by rw [sr r (Nat.le_refl _) a1]; rfl)
 have e2 : endO O p.rows r c = re := endR_uni (by omega) (by omega) (fun x g1 g2 => by rw [oi c x (Nat.le_refl _) a2 (by omega) g2]; rfl) (fun _ => by rw [ob c (Nat.le_refl _) a2]; rfl)
 unfold celR
 rw [e1, e2, if_pos]
 rw [Bool.and_eq_true, chkS_iff, chkO_iff]
 constructor
 ·intro y k h1 h2 h3 h4
  by_cases f1 : k = c
  ·rw [f1, sl y h1 h2]; simp
  ·by_cases f2 : k = ce
   ·rw [f2, sr y h1 h2]; simp
   ·rw [si y k h1 h2 (by omega) (by omega)]
    symm; simp; omega
 ·intro k y h1 h2 h3 h4
  by_cases f1 : y = r
  ·rw [f1, ot k h1 h2]; simp
  ·by_cases f2 : y = re
   ·rw [f2, ob k h1 h2]; simp
   ·rw [oi k y h1 h2 (by omega) (by omega)]
    symm; simp; omega
def anyU (m : List Bool) (C r re c ce : Nat) : Bool := (List.range' r (re - r)).any fun y => (List.range' c (ce - c)).any fun x => at0 m (y * C + x)
def ceR (r c re ce : Nat) : Ce := ⟨r, c, (re - r : Nat), (ce - c : Nat), ⟨0, 0, 0, 0⟩⟩
/-- the cells from place i on, as the reference finds them -/
def celsR (f : Fr) (O S : Nat → Nat → Bool) (rows cols : Nat) : Nat → Nat → List Bool → List Ce → Option (List Ce)
 | 0, _, _, l => some l
 | k + 1, i, m, l => if at0 m i then celsR f O S rows cols k (i + 1) m l else match celR O S rows cols (i / cols) (i % cols) with
  | none => none
  | some q => if anyU m cols (i / cols) q.1 (i % cols) q.2 then none else celsR f O S rows cols k (i + 1) (pntL m cols (i % cols) (i / cols) q.2 q.1 true) (l ++ [boxC f (ceR (i / cols) (i % cols) q.1 q.2)])
theorem cels_eq {f : Fr} {p : Pl} {O S : Nat → Nat → Bool} (hp : Sepn p O S) : ∀ (k i : Nat) (m : List Bool) (l : List Ce), i + k = p.rows * p.cols → m.length = p.rows * p.cols → Clo p m → (∀ x, x < i → at0 m x = true) →
  celsE f p k i m l = celsR f O S p.rows p.cols k i m l
 | 0, i, m, l, _, _, _, _ => rfl
 | k + 1, i, m, l, hi, hl, hm, hb => by
  have hiN : i < p.rows * p.cols := by omega
  cases h0 : at0 m i
  ·obtain ⟨r, c, hr, hc, hic⟩ := pl_split hiN
   have e1 : i / p.cols = r := by rw [hic]; exact pl_div hc
   have e2 : i % p.cols = c := by rw [hic]; exact pl_mod hc
   rw [celsR, if_neg (by rw [h0]; simp), e1, e2]
   cases hq : celR O S p.rows p.cols r c with
   | none =>
    have hn : celD p (findD p m i) = none := by
     cases hd : celD p (findD p m i) with
     | none => rfl
     | some ce =>
      obtain ⟨b, rr, hR⟩ := find_conv hp hm hl hiN h0 hb hd
      rw [e1, e2] at hR
      rw [rect_celR hR] at hq; cases hq
    rw [cels_none h0 hn]
   | some q =>
    obtain ⟨re, ce⟩ := q
    have hR := celR_rect hr hc hq
    obtain ⟨f1, f2, f3⟩ := find_rect hp hm hl hR (by rw [← hic]; exact h0)
    rw [← hic] at f2 f3
    have hu : anyU m p.cols r re c ce = false := by
     unfold anyU
     rw [List.any_eq_false]
     intro y hy
     rw [Bool.not_eq_true, List.any_eq_false]
     intro x hx
     rw [List.mem_range'_1] at hy hx
     have := hR.rC
     rw [f1 _ ((inR_at (by omega)).2 ⟨by omega, by omega, by omega, by omega⟩)]; simp
    dsimp only
    rw [hu, if_neg (by simp), cels_some h0 f2, f3]
    refine cels_eq hp k (i + 1) _ _ (by omega) (by rw [pntL_len, hl]) (Clo.paint hp hm hl hR) (fun x hx => ?_)
    rw [pnt_at0 (by omega)]
    by_cases e : x = i
    ·left
     rw [e, hic, inR_at hc]
     have := hR.tb
     have := hR.lr
     omega
    ·exact .inr (hb x (by omega))
  ·rw [cels_met h0, celsR, if_pos h0]
   refine cels_eq hp k (i + 1) m l (by omega) hl hm (fun x hx => ?_)
   by_cases e : x = i
   ·rw [e]; exact h0
   ·exact hb x (by omega)
/-! orderly spans, in words that do not depend on their order -/
theorem srt_get {S : List Sp} (hs : SrtS S) {i j : Nat} (hi : i < S.length) (hj : j < S.length) (h : i < j) : S[i].n < S[j].n ∨ S[i].n = S[j].n ∧ S[i].f ≤ S[j].f := by
 have := List.pairwise_iff_getElem.1 hs i j hi hj h
 rw [cmpS_lt] at this
 omega
theorem ordL_disj {S : List Sp} (hs : SrtS S) (hf : ∀ s ∈ S, s.f < s.o) : ordL S = true ↔ S.Pairwise Disj := by
 rw [ordL_iff]
 constructor
 ·intro h
  rw [List.pairwise_iff_getElem]
  intro i j hi hj hij
  rintro ⟨h1, h2, h3⟩
  have g := h i (by omega) (by omega)
  have s1 := srt_get hs hi (show i + 1 < S.length by omega) (by omega)
  by_cases e : i + 1 = j
  ·subst e; exact g ⟨h1, h3⟩
  ·have s2 := srt_get hs (show i + 1 < S.length by omega) hj (by omega)
   have hn : S[i].n = S[i + 1].n := by omega
   exact g ⟨hn, by omega⟩
 ·intro h i h1 h2
  rintro ⟨g1, g2⟩
  have hd := List.pairwise_iff_getElem.1 h i (i + 1) (by omega) h1 (by omega)
  have s1 := srt_get hs (show i < S.length by omega) h1 (by omega)
  have f2 := hf _ (List.getElem_mem h1)
  exact hd ⟨g1, by omega, g2⟩
structure OrdU (L : List Sp) (n k : Nat) : Prop where
 d : L.Pairwise Disj
 w : ∀ s ∈ L, ordW n k s = false
 c0 : L.countP (fun s => s.n == 0) = 1
 cN : L.countP (fun s => s.n + 1 == n) = 1
theorem ord_iff {L : List Sp} {n k : Nat} (hf : ∀ s ∈ L, s.f < s.o) : ordE (L.mergeSort spnLe) n k = true ↔ OrdU L n k := by
 have hp := List.mergeSort_perm L spnLe
 have hs := srt_merge L
 have hf' : ∀ s ∈ L.mergeSort spnLe, s.f < s.o := fun s h => hf s (hp.mem_iff.1 h)
 unfold ordE
 simp only [Bool.and_eq_true, ordL_disj hs hf', Bool.not_eq_true', decide_eq_true_iff, hp.countP_eq]
 have hd : (L.mergeSort spnLe).Pairwise Disj ↔ L.Pairwise Disj := hp.pairwise_iff fun h => Disj.symm h
 have hw : (L.mergeSort spnLe).any (ordW n k) = false ↔ ∀ s ∈ L, ordW n k s = false := by
  rw [List.any_eq_false]
  exact ⟨fun h s hm => by simpa using h s (hp.mem_iff.2 hm), fun h s hm => by rw [h s (hp.mem_iff.1 hm)]; simp⟩
 rw [hd, hw]
 exact ⟨fun ⟨⟨⟨a, b⟩, c⟩, d⟩ => ⟨a, b, c, d⟩, fun ⟨a, b, c, d⟩ => ⟨⟨⟨a, b⟩, c⟩, d⟩⟩
theorem one_uni {α : Type} {p : α → Bool} {L : List α} (h : L.countP p = 1) {a b : α} (ha : a ∈ L) (hb : b ∈ L) (pa : p a = true) (pb : p b = true) : a = b := by
 rw [List.countP_eq_length_filter, List.length_eq_one_iff] at h
 obtain ⟨c, hc⟩ := h
 have h1 : a ∈ L.filter p := List.mem_filter.2 ⟨ha, pa⟩
 have h2 : b ∈ L.filter p := List.mem_filter.2 ⟨hb, pb⟩
 rw [hc, List.mem_singleton] at h1 h2
 rw [h1, h2]
theorem cntO_sum {L : List Sp} {N : Nat} (hN : 2 ≤ N) : cntO N L = L.countP (fun s => s.n == 0) + L.countP (fun s => s.n + 1 == N) := by
 unfold cntO
 induction L with
 | nil => rfl
 | cons s L ih =>
  rw [List.countP_cons, List.countP_cons, List.countP_cons, ih]
  have : (if outS N s = true then 1 else 0) = (if (s.n == 0) = true then 1 else 0) + (if (s.n + 1 == N) = true then 1 else 0) := by
   unfold outS
   by_cases h0 : s.n = 0
   ·rw [if_pos (by simp [h0]), if_pos (by simp [h0]), if_neg (by simp [h0]; omega)]
   ·by_cases h1 : s.n + 1 = N
    ·rw [if_pos (by simp [h1]), if_neg (by simp [h0]), if_pos (by simp [h1])]
    ·rw [if_neg (by simp [h0, h1]), if_neg (by simp [h0]), if_neg (by simp [h1])]
  omega
/-- a band that is covered all the way -/
def FulC (L : List Sp) (k K : Nat) : Prop := ∀ j, j < K → Cv L k j
theorem ful_pos {L : List Sp} {k K : Nat} (hK : 1 ≤ K) (h : FulC L k K) {p : Sp → Bool} (hp : ∀ s, s.n = k → p s = true) : 1 ≤ L.countP p := by
 obtain ⟨s, hs, h1, _⟩ := h 0 (by omega)
 exact List.countP_pos_iff.2 ⟨s, hs, hp s h1⟩
theorem ful_one {L : List Sp} {k K : Nat} {p : Sp → Bool} (hK : 1 ≤ K) (hp : ∀ s, p s = true ↔ s.n = k) (h1 : L.countP p = 1) (hb : ∀ s ∈ L, s.o ≤ K) : FulC L k K ↔ ∀ s ∈ L, s.n = k → s.f = 0 ∧ s.o = K := by
 constructor
 ·intro h s hs hn
  obtain ⟨a, ha, a1, a2, a3⟩ := h 0 (by omega)
  obtain ⟨b, hb', b1, b2, b3⟩ := h (K - 1) (by omega)
  have e1 := one_uni h1 ha hs ((hp a).2 a1) ((hp s).2 hn)
  have e2 := one_uni h1 hb' hs ((hp b).2 b1) ((hp s).2 hn)
  subst e1
  rw [e2] at b3
  have := hb a hs
  omega
 ·intro h j hj
  obtain ⟨s, hs, ps⟩ := List.countP_pos_iff.1 (show 0 < L.countP p by omega)
  have hn := (hp s).1 ps
  obtain ⟨f1, f2⟩ := h s hs hn
  exact ⟨s, hs, hn, by omega, by omega⟩
theorem outer_iff {A D : List Sp} {N K M J : Nat} (hN : 2 ≤ N) (hM : 2 ≤ M) (hK : 1 ≤ K) (hJ : 1 ≤ J) (ha : ∀ s ∈ A, s.o ≤ K) (hd : ∀ s ∈ D, s.o ≤ J) :
  (cntO N A + cntO M D = 4 ∧ (FulC A 0 K ∧ FulC A (N - 1) K) ∧ FulC D 0 J ∧ FulC D (M - 1) J) ↔
  (((∀ s ∈ A, ordW N (K + 1) s = false) ∧ A.countP (fun s => s.n == 0) = 1 ∧ A.countP (fun s => s.n + 1 == N) = 1) ∧ (∀ s ∈ D, ordW M (J + 1) s = false) ∧ D.countP (fun s => s.n == 0) = 1 ∧ D.countP (fun s => s.n + 1 == M) = 1) := by
 have p0 : ∀ s : Sp, (s.n == 0) = true ↔ s.n = 0 := fun s => beq_iff_eq
 have pN : ∀ s : Sp, (s.n + 1 == N) = true ↔ s.n = N - 1 := fun s => by rw [beq_iff_eq]; omega
 have pM : ∀ s : Sp, (s.n + 1 == M) = true ↔ s.n = M - 1 := fun s => by rw [beq_iff_eq]; omega
 have hw : ∀ (n k : Nat) (s : Sp), ordW n (k + 1) s = false ↔ ((s.n = 0 ∨ s.n + 1 = n) → s.f = 0 ∧ s.o = k) := fun n k s => by
  unfold ordW
  rw [Bool.and_eq_false_iff, decide_eq_false_iff_not, Bool.not_eq_false', decide_eq_true_iff]
  constructor
  ·rintro (h | h) h2
   ·exact absurd h2 h
   ·exact ⟨h.1, by omega⟩
  ·intro h
   by_cases h2 : s.n = 0 ∨ s.n + 1 = n
   ·exact .inr ⟨(h h2).1, by have := (h h2).2; omega⟩
   ·exact .inl h2
 rw [cntO_sum hN, cntO_sum hM]
 constructor
 ·rintro ⟨hc, ⟨f1, f2⟩, f3, f4⟩
  have g1 := ful_pos hK f1 (p := fun s => s.n == 0) fun s h => (p0 s).2 h
  have g2 := ful_pos hK f2 (p := fun s => s.n + 1 == N) fun s h => (pN s).2 h
  have g3 := ful_pos hJ f3 (p := fun s => s.n == 0) fun s h => (p0 s).2 h
  have g4 := ful_pos hJ f4 (p := fun s => s.n + 1 == M) fun s h => (pM s).2 h
  have c1 : A.countP (fun s => s.n == 0) = 1 := by omega
  have c2 : A.countP (fun s => s.n + 1 == N) = 1 := by omega
  have c3 : D.countP (fun s => s.n == 0) = 1 := by omega
  have c4 : D.countP (fun s => s.n + 1 == M) = 1 := by omega
  have k1 := (ful_one hK p0 c1 ha).1 f1
  have k2 := (ful_one hK pN c2 ha).1 f2
  have k3 := (ful_one hJ p0 c3 hd).1 f3
  have k4 := (ful_one hJ pM c4 hd).1 f4
  refine ⟨⟨fun s hs => (hw N K s).2 fun h => ?_, c1, c2⟩, fun s hs => (hw M J s).2 fun h => ?_, c3, c4⟩
  ·rcases h with h | h
   ·exact k1 s hs h
   ·exact k2 s hs (by omega)
  ·rcases h with h | h
   ·exact k3 s hs h
   ·exact k4 s hs (by omega)
 ·rintro ⟨⟨w1, c1, c2⟩, w2, c3, c4⟩
  refine ⟨by omega, ⟨(ful_one hK p0 c1 ha).2 fun s hs h => (hw N K s).1 (w1 s hs) (.inl h), (ful_one hK pN c2 ha).2 fun s hs h => (hw N K s).1 (w1 s hs) (.inr (by omega))⟩,
   (ful_one hJ p0 c3 hd).2 fun s hs h => (hw M J s).1 (w2 s hs) (.inl h), (ful_one hJ pM c4 hd).2 fun s hs h => (hw M J s).1 (w2 s hs) (.inr (by omega))⟩
theorem ful_iff {M : List (List Bool)} {L : List Sp} {N K k : Nat} (h : Rep M L N K) (hk : k < N) : fulB (M.getD k []) = true ↔ FulC L k K := by
 unfold fulB FulC
 have hr := h.row k hk
 rw [List.all_eq_true]
 constructor
 ·intro ha j hj
  rw [← h.cov k j hk hj]
  unfold mt2
  have hl : j < (M.getD k []).length := by omega
  generalize M.getD k [] = row at *
  rw [List.getD_eq_getElem?_getD, List.getElem?_eq_getElem hl]
  exact ha _ (List.getElem_mem hl)
 ·intro hf x hx
  obtain ⟨j, hj, rfl⟩ := List.getElem_of_mem hx
  have := (h.cov k j hk (by omega)).2 (hf j (by omega))
  unfold mt2 at this
  generalize M.getD k [] = row at *
  rw [List.getD_eq_getElem?_getD, List.getElem?_eq_getElem hj] at this
  exact this
/-! separations that spans mark -/
theorem set_fold_at (key : Nat → Nat) : ∀ (L : List Nat) (d : List Bool) {i : Nat}, i < d.length → (at0 (L.foldl (fun d r => d.set (key r) true) d) i = true ↔ at0 d i = true ∨ ∃ r ∈ L, key r = i)
 | [], d, i, h => by simp
 | a :: L, d, i, h => by
  rw [List.foldl_cons, set_fold_at key L _ (by simpa using h)]
  have e : at0 (d.set (key a) true) i = true ↔ at0 d i = true ∨ key a = i := by
   by_cases hk : key a = i
   ·rw [hk, at0_lt (by simpa using h), List.getElem_set]
    simp
   ·have hs : at0 (d.set (key a) true) i = at0 d i := by
     rw [at0_lt (by simpa using h), at0_lt h, List.getElem_set, if_neg hk]
    rw [hs]
    exact ⟨.inl, fun h => h.elim id fun h => absurd h hk⟩
  rw [e, or_assoc]
  simp
theorem mrkR_at {cols : Nat} {d : List Bool} {s : Sp} {r c : Nat} (hc : c < cols) (hn : s.n ≤ cols) (hl : r * cols + c < d.length) : at0 (mrkR cols d s) (r * cols + c) = true ↔ at0 d (r * cols + c) = true ∨ (s.n = c + 1 ∧ s.f ≤ r ∧ r < s.o) := by
 unfold mrkR
 by_cases h0 : s.n = 0
 ·rw [if_pos h0]
  exact ⟨.inl, fun h => h.elim id fun h => by omega⟩
 ·rw [if_neg h0, set_fold_at (fun row => row * cols + s.n - 1) _ _ hl]
  have e : (∃ x ∈ List.range' s.f (s.o - s.f), x * cols + s.n - 1 = r * cols + c) ↔ (s.n = c + 1 ∧ s.f ≤ r ∧ r < s.o) := by
   constructor
   ·rintro ⟨x, hx, e⟩
    rw [List.mem_range'_1] at hx
    obtain ⟨e1, e2⟩ := pl_inj (C := cols) (r := x) (c := s.n - 1) (r' := r) (c' := c) (by omega) hc (by omega)
    omega
   ·rintro ⟨h1, h2, h3⟩
    exact ⟨r, by rw [List.mem_range'_1]; omega, by omega⟩
  rw [e]
theorem mrkB_at {cols : Nat} {d : List Bool} {s : Sp} {r c : Nat} (hc : c < cols) (ho : s.o ≤ cols) (hl : r * cols + c < d.length) : at0 (mrkB cols d s) (r * cols + c) = true ↔ at0 d (r * cols + c) = true ∨ (s.n = r + 1 ∧ s.f ≤ c ∧ c < s.o) := by
 unfold mrkB
 by_cases h0 : s.n = 0
 ·rw [if_pos h0]
  exact ⟨.inl, fun h => h.elim id fun h => by omega⟩
 ·rw [if_neg h0, set_fold_at (fun col => (s.n - 1) * cols + col) _ _ hl]
  have e : (∃ x ∈ List.range' s.f (s.o - s.f), (s.n - 1) * cols + x = r * cols + c) ↔ (s.n = r + 1 ∧ s.f ≤ c ∧ c < s.o) := by
   constructor
   ·rintro ⟨x, hx, e⟩
    rw [List.mem_range'_1] at hx
    obtain ⟨e1, e2⟩ := pl_inj (C := cols) (by omega) hc e
    omega
   ·rintro ⟨h1, h2, h3⟩
    exact ⟨c, by rw [List.mem_range'_1]; omega, by rw [h1, Nat.add_sub_cancel]⟩
  rw [e]
theorem marks_at {g : List Bool → Sp → List Bool} {Q : Sp → Prop} {i N : Nat} (hg : ∀ d s, (g d s).length = d.length) (hi : i < N) : ∀ (L : List Sp) (d : List Bool), d.length = N → (∀ s ∈ L, ∀ d : List Bool, d.length = N → (at0 (g d s) i = true ↔ at0 d i = true ∨ Q s)) → (at0 (L.foldl g d) i = true ↔ at0 d i = true ∨ ∃ s ∈ L, Q s)
 | [], d, _, _ => by simp
 | a :: L, d, hd, h => by
  rw [List.foldl_cons, marks_at hg hi L (g d a) (by rw [hg, hd]) (fun s hs => h s (List.mem_cons_of_mem _ hs)), h a (List.mem_cons_self ..) d hd, or_assoc]
  simp
theorem rep_no (N i : Nat) : at0 (List.replicate N false) i = false := by
 unfold at0
 rw [List.getD_eq_getElem?_getD]
 by_cases h : i < N
 ·rw [List.getElem?_eq_getElem (by simpa using h)]; simp
 ·rw [List.getElem?_eq_none (by simpa using h)]; rfl
theorem sepn_of {f : Fr} {m : Nat} {A D : List Sp} {s : Fs} (hf : FrOk f m) (hA : f.A.Perm A) (hD : f.D.Perm D) (hO : Rep s.O A f.H.length (f.V.length - 1)) (hS : Rep s.S D f.V.length (f.H.length - 1))
  (f1 : FulC A 0 (f.V.length - 1)) (f2 : FulC A (f.H.length - 1) (f.V.length - 1)) (f3 : FulC D 0 (f.H.length - 1)) (f4 : FulC D (f.V.length - 1) (f.H.length - 1)) : Sepn (plcE f) (mt2 s.O) (mt2 s.S) := by
 obtain ⟨h2, v2, _, _, ha, hd, _, _⟩ := hf
 refine ⟨?_, ?_, ?_, ?_, ?_, ?_⟩
 ·intro r c hr hc
  have hr' : r < f.H.length - 1 := hr
  have hc' : c < f.V.length - 1 := hc
  have hlt := pl_lt hr' hc'
  rw [Bool.eq_iff_iff, hS.cov (c + 1) r (by omega) hr']
  show at0 (f.D.foldl (mrkR (f.V.length - 1)) (List.replicate ((f.H.length - 1) * (f.V.length - 1)) false)) (r * (f.V.length - 1) + c) = true ↔ _
  rw [marks_at (g := mrkR (f.V.length - 1)) (Q := fun s => s.n = c + 1 ∧ s.f ≤ r ∧ r < s.o) (fun d s => mrkR_len _ d s) hlt f.D _ (by simp) (fun s hs d hdl => mrkR_at hc' (by have := hd s hs; omega) (by rw [hdl]; exact hlt)), rep_no]
  unfold Cv
  constructor
  ·rintro (h | ⟨s, hs, h⟩)
   ·cases h
   ·exact ⟨s, hD.mem_iff.1 hs, h⟩
  ·rintro ⟨s, hs, h⟩
   exact .inr ⟨s, hD.mem_iff.2 hs, h⟩
 ·intro r c hr hc
  have hr' : r < f.H.length - 1 := hr
  have hc' : c < f.V.length - 1 := hc
  have hlt := pl_lt hr' hc'
  rw [Bool.eq_iff_iff, hO.cov (r + 1) c (by omega) hc']
  show at0 (f.A.foldl (mrkB (f.V.length - 1)) (List.replicate ((f.H.length - 1) * (f.V.length - 1)) false)) (r * (f.V.length - 1) + c) = true ↔ _
  rw [marks_at (g := mrkB (f.V.length - 1)) (Q := fun s => s.n = r + 1 ∧ s.f ≤ c ∧ c < s.o) (fun d s => mrkB_len _ d s) hlt f.A _ (by simp) (fun s hs d hdl => mrkB_at hc' (by have := ha s hs; omega) (by rw [hdl]; exact hlt)), rep_no]
  unfold Cv
  constructor
  ·rintro (h | ⟨s, hs, h⟩)
   ·cases h
   ·exact ⟨s, hA.mem_iff.1 hs, h⟩
  ·rintro ⟨s, hs, h⟩
   exact .inr ⟨s, hA.mem_iff.2 hs, h⟩
 ·intro r hr
  exact (hS.cov 0 r (by omega) hr).2 (f3 r hr)
 ·intro r hr
  exact (hS.cov _ r (by show f.V.length - 1 < _; omega) hr).2 (f4 r hr)
 ·intro c hc
  exact (hO.cov 0 c (by omega) hc).2 (f1 c hc)
 ·intro c hc
  exact (hO.cov _ c (by show f.H.length - 1 < _; omega) hc).2 (f2 c hc)
/-! the frame -/
theorem frm_bld {l : List Ru} (h : ∀ r ∈ l, 1 ≤ r.t) : (bldE l = none ∧ frmR l = none) ∨ ∃ f s, bldE l = some f ∧ frmR l = some s ∧ (f.H = bndR l false ∧ f.V = bndR l true) ∧ Sepn (plcE f) (mt2 s.O) (mt2 s.S) := by
 obtain ⟨a1, a2⟩ := bnd_R (v := false) h
 obtain ⟨b1, b2⟩ := bnd_R (v := true) h
 by_cases hA : aptE (bndE l false) = true ∧ aptE (bndE l true) = true
 ·obtain ⟨hA1, hA2⟩ := hA
  have eH := a2 hA1
  have eV := b2 hA2
  rw [eH] at hA1 a1
  rw [eV] at hA2 b1
  have hm1 : ∀ v, ∀ x ∈ bndR l v, 1 ≤ x.2 := fun v x hx => by
   rw [bndR_mem] at hx
   unfold bndL at hx
   obtain ⟨r, hr, rfl⟩ := List.mem_map.1 hx
   exact h r (List.mem_filter.1 hr).1
  have hap : ∀ v, aptE (bndR l v) = true → SepB (bndR l v) ∧ 2 ≤ (bndR l v).length := fun v ha => by
   unfold aptE at ha
   rw [Bool.and_eq_true, decide_eq_true_iff] at ha
   exact ⟨aptL_sep (hm1 v) ha.1, ha.2⟩
  obtain ⟨sH, lH⟩ := hap false hA1
  obtain ⟨sV, lV⟩ := hap true hA2
  have stOf : ∀ {v}, SepB (bndR l v) → StB (bndR l v) := fun {v} hs => by
   refine List.Pairwise.imp_of_mem ?_ hs
   intro a b ha _ hab
   have := hm1 v a ha
   omega
  have hin : ∀ r ∈ l, (r.a, r.t) ∈ if r.v then bndR l true else bndR l false := fun r hr => by
   have : ∀ v, r.v = v → (r.a, r.t) ∈ bndR l v := fun v hv => by
    rw [bndR_mem]
    exact List.mem_map.2 ⟨r, List.mem_filter.2 ⟨hr, by simpa using hv⟩, rfl⟩
   cases hv : r.v
   ·exact this false hv
   ·exact this true hv
  obtain ⟨g1, g2⟩ := frm_all sH sV (stOf sH) (stOf sV) (hm1 false) (hm1 true) hin l.length (Nat.le_refl _)
  have ek : frmK (bndR l false) (bndR l true) l l.length = frmL (bndR l false) (bndR l true) l := by unfold frmK; rw [List.take_length]
  rw [ek, List.take_length] at g1 g2
  unfold frmR
  rw [hA1, hA2, if_pos (show (true && true) = true from rfl)]
  cases hfr : frmL (bndR l false) (bndR l true) l with
  | none =>
   left
   refine ⟨?_, rfl⟩
   cases hb : bldE l with
   | none => rfl
   | some f =>
    exfalso
    refine g1 hfr ?_
    unfold bldE at hb
    dsimp only at hb
    split at hb
    ·rename_i hc
     split at hb
     ·rename_i ho
      simp only [Bool.and_eq_true] at hc ho
      rw [eH, eV] at hc ho
      exact ⟨⟨hc.1.2, ((ord_iff (spn_lt hc.1.2)).1 ho.1).d⟩, hc.2, ((ord_iff (spn_lt hc.2)).1 ho.2).d⟩
     ·cases hb
    ·cases hb
  | some s =>
   obtain ⟨⟨⟨k1, k2⟩, k3, k4⟩, hO, hS, hn⟩ := g2 s hfr
   have own1 : ∀ r ∈ l, r.v = false → (r.a, r.t) ∈ bndR l false := fun r hr hv => by have := hin r hr; rw [hv] at this; simpa using this
   have own2 : ∀ r ∈ l, r.v = true → (r.a, r.t) ∈ bndR l true := fun r hr hv => by have := hin r hr; rw [hv] at this; simpa using this
   have i1 := spn_in k1 own1
   have i2 := spn_in k3 own2
   have oi := outer_iff (A := spnL l false (bndR l false) (bndR l true)) (D := spnL l true (bndR l true) (bndR l false)) (N := (bndR l false).length) (K := (bndR l true).length - 1) (M := (bndR l true).length) (J := (bndR l false).length - 1) lH lV (by omega) (by omega) (fun s hs => by have := i1 s hs; omega) (fun s hs => by have := i2 s hs; omega)
   rw [show (bndR l true).length - 1 + 1 = (bndR l true).length by omega, show (bndR l false).length - 1 + 1 = (bndR l false).length by omega] at oi
   have ff : frmF (bndR l false) (bndR l true) s = true ↔ OrdU (spnL l false (bndR l false) (bndR l true)) (bndR l false).length (bndR l true).length ∧ OrdU (spnL l true (bndR l true) (bndR l false)) (bndR l true).length (bndR l false).length := by
    unfold frmF
    simp only [Bool.and_eq_true, decide_eq_true_iff]
    rw [ful_iff hO (by omega), ful_iff hO (by omega), ful_iff hS (by omega), ful_iff hS (by omega), hn]
    constructor
    ·rintro ⟨⟨⟨⟨q1, q2⟩, q3⟩, q4⟩, q5⟩
     obtain ⟨⟨w1, c1, c2⟩, w2, c3, c4⟩ := oi.1 ⟨q1, ⟨q2, q3⟩, q4, q5⟩
     exact ⟨⟨k2, w1, c1, c2⟩, ⟨k4, w2, c3, c4⟩⟩
    ·rintro ⟨⟨_, w1, c1, c2⟩, ⟨_, w2, c3, c4⟩⟩
     obtain ⟨q1, ⟨q2, q3⟩, q4, q5⟩ := oi.2 ⟨⟨w1, c1, c2⟩, w2, c3, c4⟩
     exact ⟨⟨⟨⟨q1, q2⟩, q3⟩, q4⟩, q5⟩
   have hbe : bldE l = if frmF (bndR l false) (bndR l true) s then some ⟨bndR l false, bndR l true, (spnL l false (bndR l false) (bndR l true)).mergeSort spnLe, (spnL l true (bndR l true) (bndR l false)).mergeSort spnLe⟩ else none := by
    unfold bldE
    dsimp only
    rw [eH, eV, hA1, hA2, k1, k3, if_pos (show (true && true && true && true) = true from rfl)]
    congr 1
    rw [eq_iff_iff, Bool.and_eq_true, ord_iff (spn_lt k1), ord_iff (spn_lt k3), ff]
   rw [hbe]
   dsimp only [Option.bind]
   by_cases hF : frmF (bndR l false) (bndR l true) s = true
   ·right
    rw [if_pos hF] at hbe
    obtain ⟨hok, -⟩ := bld_ok hbe
    rw [if_pos hF]
    refine ⟨_, s, rfl, by first | rw [if_pos hF] | rw [Option.bind_some, if_pos hF], ⟨rfl, rfl⟩, ?_⟩
    obtain ⟨o1, o2⟩ := ff.1 hF
    obtain ⟨_, ⟨q2, q3⟩, q4, q5⟩ := oi.2 ⟨⟨o1.w, o1.c0, o1.cN⟩, o2.w, o2.c0, o2.cN⟩
    exact sepn_of hok (List.mergeSort_perm _ _) (List.mergeSort_perm _ _) hO hS q2 q3 q4 q5
   ·left
    rw [if_neg hF]
    exact ⟨rfl, by first | rw [if_neg hF] | rw [Option.bind_some, if_neg hF]⟩
 ·left
  constructor
  ·unfold bldE
   dsimp only
   rw [if_neg]
   intro hc
   simp only [Bool.and_eq_true] at hc
   exact hA hc.1.1
  ·unfold frmR
   rw [if_neg]
   intro hc
   rw [Bool.and_eq_true, ← a1, ← b1] at hc
   exact hA hc
/-- what the reference's Grid answers -/
def grdR (l : List Ru) : Ta × Int :=
 if l.length = 0 then (noT, 5)
 else if 512 < l.length then (noT, 4)
 else if l.all okR then match frmR l with
  | none => (noT, 9)
  | some s => match celsR ⟨bndR l false, bndR l true, [], []⟩ (mt2 s.O) (mt2 s.S) ((bndR l false).length - 1) ((bndR l true).length - 1) (((bndR l false).length - 1) * ((bndR l true).length - 1)) 0 (List.replicate (((bndR l false).length - 1) * ((bndR l true).length - 1)) false) [] with
   | none => (noT, 9)
   | some L => (⟨(((bndR l false).length - 1 : Nat) : Int), (((bndR l true).length - 1 : Nat) : Int), L⟩, 0)
 else (noT, 3)
theorem boxC_same {f g : Fr} (h : f.H = g.H) (v : f.V = g.V) (c : Ce) : boxC f c = boxC g c := by unfold boxC; rw [h, v]
theorem celsR_same {f g : Fr} (h : f.H = g.H) (v : f.V = g.V) (O S : Nat → Nat → Bool) (rows cols : Nat) : ∀ (k i : Nat) (m : List Bool) (l : List Ce), celsR f O S rows cols k i m l = celsR g O S rows cols k i m l
 | 0, _, _, _ => rfl
 | k + 1, i, m, l => by
  simp only [celsR, boxC_same h v, celsR_same h v O S rows cols k]
theorem grd_eq (l : List Ru) : grdE l = grdR l := by
 unfold grdE grdR
 by_cases h0 : l.length = 0
 ·rw [if_pos h0, if_pos h0]
 ·rw [if_neg h0, if_neg h0]
  by_cases h1 : 512 < l.length
  ·rw [if_pos h1, if_pos h1]
  ·rw [if_neg h1, if_neg h1]
   by_cases h2 : l.all okR = true
   ·rw [if_pos h2, if_pos h2]
    have ht : ∀ r ∈ l, 1 ≤ r.t := fun r hr => (okR_iff.1 (List.all_eq_true.1 h2 r hr)).2.2.1
    rcases frm_bld ht with ⟨e1, e2⟩ | ⟨f, s, e1, e2, ⟨e3, e4⟩, hs⟩
    ·rw [e1, e2]
    ·rw [e1, e2]
     dsimp only
     have er : (plcE f).rows = (bndR l false).length - 1 := by rw [← e3]; rfl
     have ec : (plcE f).cols = (bndR l true).length - 1 := by rw [← e4]; rfl
     have hc := cels_eq (f := f) hs ((plcE f).rows * (plcE f).cols) 0 (List.replicate ((plcE f).rows * (plcE f).cols) false) [] (by omega) (by simp) (fun x _ y _ => by rw [rep_no, rep_no]) (fun x h => by omega)
     rw [celsR_same (g := ⟨bndR l false, bndR l true, [], []⟩) e3 e4] at hc
     rw [hc, er, ec]
     all_goals (generalize celsR _ _ _ _ _ _ _ _ _ = Z; cases Z <;> rfl)
   ·rw [if_neg h2, if_neg h2]
end Go.Proofs.Ytjfgklhifhaaoaa
