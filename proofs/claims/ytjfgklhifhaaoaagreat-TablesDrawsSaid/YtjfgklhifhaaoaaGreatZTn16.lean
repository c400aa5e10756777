/- Tables in plain lists: what the reference's Draw answers, and that the package's Draw answers the same. Conditions: none. -/
import Derived.Test.YtjfgklhifhaaoaaGreatZPA
set_option linter.unusedVariables false
set_option linter.unusedSimpArgs false
namespace Go.Proofs.YtjfgklhifhaaoaaGreat
/-- k pixels from x on become dark -/
def setR (d : List Bool) (x k : Nat) : List Bool := d.mapIdx fun p b => if x ≤ p ∧ p < x + k then true else b
theorem setR_len (d : List Bool) (x k : Nat) : (setR d x k).length = d.length := by simp [setR]
theorem setR_zero (d : List Bool) (x : Nat) : setR d x 0 = d := by
 apply List.ext_getElem
 ·simp [setR]
 ·intro i h1 h2
  simp only [setR, List.getElem_mapIdx]
  rw [if_neg]; omega
theorem setR_succ (d : List Bool) (x k : Nat) : (setR d x k).set (x + k) true = setR d x (k + 1) := by
 apply List.ext_getElem
 ·simp [setR]
 ·intro i h1 h2
  rw [List.getElem_set]
  simp only [setR, List.getElem_mapIdx]
  by_cases h : x + k = i
  ·rw [if_pos h, if_pos (by omega)]
  ·rw [if_neg h]
   congr 1
   rw [eq_iff_iff]; omega
/-- the first lines of an extent: the place of the next one, and the pixels -/
def lndS (t : Nat) (s : Nat × List Bool) (n : Nat) : Nat × List Bool := (s.1 + t + n, setR s.2 s.1 t)
def lndK (l : List Nat) (t N i : Nat) : Nat × List Bool := (l.take i).foldl (lndS t) (0, List.replicate N false)
def lndL (l : List Nat) (t N : Nat) : List Bool := setR (lndK l t N l.length).2 (lndK l t N l.length).1 t
theorem lndK_succ {l : List Nat} {t N i : Nat} (h : i < l.length) : lndK l t N (i + 1) = lndS t (lndK l t N i) l[i] := by
 unfold lndK
 rw [List.take_succ_eq_append_getElem h, List.foldl_append]; rfl
theorem lndS_len (t : Nat) : ∀ (l : List Nat) (s : Nat × List Bool), (l.foldl (lndS t) s).2.length = s.2.length
 | [], s => rfl
 | n :: l, s => (lndS_len t l _).trans (setR_len ..)
theorem lndK_len (l : List Nat) (t N i : Nat) : (lndK l t N i).2.length = N := by
 unfold lndK
 rw [lndS_len]; simp
theorem lndL_len (l : List Nat) (t N : Nat) : (lndL l t N).length = N := by
 unfold lndL
 rw [setR_len, lndK_len]
def sumK (l : List Nat) (t : Nat) : Nat := l.foldl (fun s n => s + t + n) 0
theorem lndS_at (t : Nat) : ∀ (l : List Nat) (s : Nat × List Bool), (l.foldl (lndS t) s).1 = l.foldl (fun s n => s + t + n) s.1
 | [], s => rfl
 | n :: l, s => lndS_at t l _
theorem sum_go (t : Nat) : ∀ (l : List Nat) (s : Nat), s ≤ l.foldl (fun s n => s + t + n) s
 | [], s => Nat.le_refl _
 | n :: l, s => Nat.le_trans (by omega) (sum_go t l (s + t + n))
theorem lndK_le {l : List Nat} {t N i : Nat} (h : i ≤ l.length) : (lndK l t N i).1 ≤ sumK l t := by
 unfold lndK sumK
 rw [lndS_at]
 have := sum_go t (l.drop i) ((l.take i).foldl (fun s n => s + t + n) 0)
 rw [← List.foldl_append, List.take_append_drop] at this
 exact this
/-- the reference's sum -/
def extS (t : Int) (n x : Int) : Int := min (n + x + t) 12288
def extR (l : List Int) (t : Int) : Int := if l.any badI then -1 else l.foldl (extS t) t
theorem badI_not {n : Int} (h : badI n = false) : 1 ≤ n ∧ n ≤ 4096 := by
 unfold badI at h
 rw [decide_eq_false_iff_not] at h
 omega
theorem extS_go {t : Int} (h1 : 1 ≤ t) : ∀ (l : List Int) (s : Int), (∀ n ∈ l, 1 ≤ n) → l.foldl (extS t) (min s 12288) = min (l.foldl (fun s n => s + (n + t)) s) 12288
 | [], s, _ => rfl
 | n :: l, s, h => by
  have hn := h n (List.mem_cons_self ..)
  rw [List.foldl_cons, List.foldl_cons, ← extS_go h1 l (s + (n + t)) fun x hx => h x (List.mem_cons_of_mem _ hx)]
  congr 1
  unfold extS; omega
theorem extR_neg {l : List Int} {t : Int} (h1 : 1 ≤ t) (h2 : t ≤ 4096) : (extR l t < 0 ↔ l.any badI = true) ∧ (l.any badI = false → extR l t = min (extE l t) 12288) := by
 unfold extR
 by_cases h : l.any badI = true
 ·rw [if_pos h, h]; simp
 ·rw [if_neg h]
  have h3 : l.any badI = false := by simpa using h
  have h4 : ∀ n ∈ l, 1 ≤ n ∧ n ≤ 4096 := fun n hn => badI_not (by rw [List.any_eq_false] at h3; simpa using h3 n hn)
  have h5 := extS_go h1 l t fun n hn => (h4 n hn).1
  rw [show min t 12288 = t by omega] at h5
  have h6 := (extE_le h4 h1 h2).1
  unfold extE at h6 ⊢
  rw [h5]
  refine ⟨⟨fun h => by omega, fun h => absurd h (by simp_all)⟩, fun _ => rfl⟩
/-- what the reference's Draw answers -/
def toN (l : List Int) : List Nat := l.map Int.toNat
def drwQ (ws hs : List Int) (t W H : Int) : List Bool :=
 (List.range (W * H).toNat).map fun i => (lndL (toN ws) t.toNat W.toNat).getD (i % W.toNat) false || (lndL (toN hs) t.toNat H.toNat).getD (i / W.toNat) false
def drwR (ws hs : List Int) (t : Int) : Bm × Int :=
 if ws.length = 0 ∨ hs.length = 0 then (noB, 5)
 else if (badI t || decide (extR ws t < 0) || decide (extR hs t < 0)) = true then (noB, 3)
 else if 4096 < extR ws t ∨ 4096 < extR hs t ∨ 4194304 < extR ws t * extR hs t then (noB, 4)
 else (⟨extR ws t, extR hs t, drwQ ws hs t (extR ws t) (extR hs t)⟩, 0)
/-! the lines of an extent, pixel by pixel -/
def inL (t : Int) : List Int → Int → Int → Bool
 | [], _, _ => false
 | n :: l, s, p => decide (s + n ≤ p ∧ p < s + n + t) || inL t l (s + (n + t)) p
theorem getD_map' (d : List Bool) (f : Nat → Bool → Bool) (i : Nat) (h : i < d.length) : (d.mapIdx f).getD i false = f i (d.getD i false) := by
 simp [List.getD, h]
theorem setR_at (d : List Bool) (x k i : Nat) (h : i < d.length) : (setR d x k).getD i false = (decide (x ≤ i ∧ i < x + k) || d.getD i false) := by
 unfold setR
 rw [getD_map' _ _ _ h]
 by_cases g : x ≤ i ∧ i < x + k
 ·rw [if_pos g, decide_eq_true g]; rfl
 ·rw [if_neg g, decide_eq_false g]; rfl
theorem lnd_go {t : Nat} {i : Nat} : ∀ (l : List Int) (s : Nat × List Bool), (∀ n ∈ l, 1 ≤ n) → i < s.2.length →
  (setR ((toN l).foldl (lndS t) s).2 ((toN l).foldl (lndS t) s).1 t).getD i false = (s.2.getD i false || decide ((s.1 : Int) ≤ (i : Int) ∧ (i : Int) < s.1 + t) || inL t l (s.1 + t) i)
 | [], s, _, hi => by
  show (setR s.2 s.1 t).getD i false = _
  rw [setR_at _ _ _ _ hi, inL, Bool.or_false, Bool.or_comm]
  congr 2
  rw [eq_iff_iff]; omega
 | n :: l, s, h, hi => by
  have hn := h n (List.mem_cons_self ..)
  show (setR ((toN l).foldl (lndS t) (lndS t s n.toNat)).2 ((toN l).foldl (lndS t) (lndS t s n.toNat)).1 t).getD i false = _
  rw [lnd_go l _ (fun x hx => h x (List.mem_cons_of_mem _ hx)) (by unfold lndS; rw [setR_len]; exact hi)]
  unfold lndS
  dsimp only
  rw [setR_at _ _ _ _ hi, inL, show ((s.1 + t + n.toNat : Nat) : Int) = (s.1 : Int) + t + n by omega]
  have e : (s.1 : Int) + t + n + t = (s.1 : Int) + t + (n + t) := by omega
  have e2 : decide (s.1 ≤ i ∧ i < s.1 + t) = decide ((s.1 : Int) ≤ (i : Int) ∧ (i : Int) < s.1 + t) := by congr 1; rw [eq_iff_iff]; omega
  rw [e, e2]
  cases s.2.getD i false <;> cases decide ((s.1 : Int) ≤ (i : Int) ∧ (i : Int) < s.1 + t) <;> simp
theorem lndL_at {l : List Int} {t : Int} {N i : Nat} (h1 : 1 ≤ t) (h : ∀ n ∈ l, 1 ≤ n) (hi : i < N) : (lndL (toN l) t.toNat N).getD i false = (decide ((i : Int) < t) || inL t l t i) := by
 unfold lndL lndK
 rw [List.take_length, lnd_go (t := t.toNat) l _ h (by simpa using hi)]
 have e : ((t.toNat : Nat) : Int) = t := by omega
 have e2 : (List.replicate N false).getD i false = false := by simp [List.getD, hi]
 rw [e, e2]
 simp
theorem pntL_at (d : List Bool) (W X Y U V : Nat) (t : Bool) (i : Nat) (h : i < d.length) : (pntL d W X Y U V t).getD i false = if X ≤ i % W ∧ i % W < U ∧ Y ≤ i / W ∧ i / W < V then t else d.getD i false := by
 unfold pntL
 rw [getD_map' _ _ _ h]
theorem pntB_at {W H : Int} {d : List Bool} {b : Bx} {i : Nat} (h : i < d.length) (hx : i % W.toNat < W.toNat) (hy : i / W.toNat < H.toNat) (b1 : 0 ≤ b.x) (b2 : 0 ≤ b.y) : (pntB W H d b true).getD i false = (decide (b.x ≤ ((i % W.toNat : Nat) : Int) ∧ ((i % W.toNat : Nat) : Int) < b.x + b.w ∧ b.y ≤ ((i / W.toNat : Nat) : Int) ∧ ((i / W.toNat : Nat) : Int) < b.y + b.h) || d.getD i false) := by
 unfold pntB
 rw [pntL_at _ _ _ _ _ _ _ _ h]
 generalize i % W.toNat = x at *
 generalize i / W.toNat = y at *
 by_cases g : b.x ≤ (x : Int) ∧ (x : Int) < b.x + b.w ∧ b.y ≤ (y : Int) ∧ (y : Int) < b.y + b.h
 ·rw [if_pos (by omega), decide_eq_true g]; rfl
 ·rw [if_neg (by omega), decide_eq_false g]; rfl
theorem cols_at {W H t : Int} {i : Nat} (h1 : 1 ≤ t) (hx : i % W.toNat < W.toNat) (hy : i / W.toNat < H.toNat) : ∀ (l : List Int) (s : Int × List Bool), (∀ n ∈ l, 1 ≤ n) → 0 ≤ s.1 → i < s.2.length →
  ((l.foldl (colS W H t) s).2).getD i false = (s.2.getD i false || inL t l s.1 ((i % W.toNat : Nat) : Int))
 | [], s, _, _, _ => by simp [inL]
 | n :: l, s, h, h0, hi => by
  have hn := h n (List.mem_cons_self ..)
  rw [List.foldl_cons, cols_at h1 hx hy l _ (fun x hx => h x (List.mem_cons_of_mem _ hx)) (by unfold colS; dsimp only; omega) (by unfold colS; rw [pntB_len]; exact hi)]
  unfold colS
  dsimp only
  rw [pntB_at hi hx hy (by dsimp only; omega) (by dsimp only; omega), inL]
  dsimp only
  have e : decide (s.1 + n ≤ ((i % W.toNat : Nat) : Int) ∧ ((i % W.toNat : Nat) : Int) < s.1 + n + t ∧ 0 ≤ ((i / W.toNat : Nat) : Int) ∧ ((i / W.toNat : Nat) : Int) < 0 + H) = decide (s.1 + n ≤ ((i % W.toNat : Nat) : Int) ∧ ((i % W.toNat : Nat) : Int) < s.1 + n + t) := by
   have y0 := Int.natCast_nonneg (i / W.toNat)
   congr 1; rw [eq_iff_iff]; omega
  rw [e]
  cases s.2.getD i false <;> simp
theorem rows_at {W H t : Int} {i : Nat} (h1 : 1 ≤ t) (hx : i % W.toNat < W.toNat) (hy : i / W.toNat < H.toNat) : ∀ (l : List Int) (s : Int × List Bool), (∀ n ∈ l, 1 ≤ n) → 0 ≤ s.1 → i < s.2.length →
  ((l.foldl (rowS W H t) s).2).getD i false = (s.2.getD i false || inL t l s.1 ((i / W.toNat : Nat) : Int))
 | [], s, _, _, _ => by simp [inL]
 | n :: l, s, h, h0, hi => by
  have hn := h n (List.mem_cons_self ..)
  rw [List.foldl_cons, rows_at h1 hx hy l _ (fun x hx => h x (List.mem_cons_of_mem _ hx)) (by unfold rowS; dsimp only; omega) (by unfold rowS; rw [pntB_len]; exact hi)]
  unfold rowS
  dsimp only
  rw [pntB_at hi hx hy (by dsimp only; omega) (by dsimp only; omega), inL]
  dsimp only
  have e : decide (0 ≤ ((i % W.toNat : Nat) : Int) ∧ ((i % W.toNat : Nat) : Int) < 0 + W ∧ s.1 + n ≤ ((i / W.toNat : Nat) : Int) ∧ ((i / W.toNat : Nat) : Int) < s.1 + n + t) = decide (s.1 + n ≤ ((i / W.toNat : Nat) : Int) ∧ ((i / W.toNat : Nat) : Int) < s.1 + n + t) := by
   have y0 := Int.natCast_nonneg (i % W.toNat)
   congr 1; rw [eq_iff_iff]; omega
  rw [e]
  cases s.2.getD i false <;> simp
theorem cols_len (W H t : Int) : ∀ (l : List Int) (s : Int × List Bool), (l.foldl (colS W H t) s).2.length = s.2.length
 | [], s => rfl
 | n :: l, s => (cols_len W H t l _).trans (pntB_len ..)
theorem rows_len (W H t : Int) : ∀ (l : List Int) (s : Int × List Bool), (l.foldl (rowS W H t) s).2.length = s.2.length
 | [], s => rfl
 | n :: l, s => (rows_len W H t l _).trans (pntB_len ..)
theorem drwL_len (ws hs : List Int) (t W H : Int) : (drwL ws hs t W H).length = (W * H).toNat := by
 unfold drwL
 rw [rows_len, cols_len, pntB_len, pntB_len]; simp
/-- a pixel of the drawn table -/
theorem drwL_at {ws hs : List Int} {t W H : Int} {i : Nat} (h1 : 1 ≤ t) (hW : 0 ≤ W) (hH : 0 ≤ H) (h2 : ∀ n ∈ ws, 1 ≤ n) (h3 : ∀ n ∈ hs, 1 ≤ n) (hi : i < W.toNat * H.toNat) :
  (drwL ws hs t W H).getD i false = ((decide (((i % W.toNat : Nat) : Int) < t) || inL t ws t ((i % W.toNat : Nat) : Int)) || (decide (((i / W.toNat : Nat) : Int) < t) || inL t hs t ((i / W.toNat : Nat) : Int))) := by
 have hw0 : 0 < W.toNat := by
  rcases Nat.eq_zero_or_pos W.toNat with e | e
  ·rw [e, Nat.zero_mul] at hi; omega
  ·exact e
 have hx : i % W.toNat < W.toNat := Nat.mod_lt _ hw0
 have hy : i / W.toNat < H.toNat := Nat.div_lt_of_lt_mul hi
 have hl : i < (W * H).toNat := by
  rw [Int.toNat_mul hW hH]; exact hi
 unfold drwL
 rw [rows_at h1 hx hy hs _ h3 (by dsimp only; omega) (by rw [cols_len, pntB_len, pntB_len]; simpa using hl)]
 dsimp only
 rw [cols_at h1 hx hy ws _ h2 (by dsimp only; omega) (by rw [pntB_len, pntB_len]; simpa using hl)]
 dsimp only
 rw [pntB_at (by rw [pntB_len]; simpa using hl) hx hy (by dsimp only; omega) (by dsimp only; omega), pntB_at (by simpa using hl) hx hy (by dsimp only; omega) (by dsimp only; omega)]
 dsimp only
 have e0 : (List.replicate (W * H).toNat false).getD i false = false := by simp [List.getD, hl]
 have x0 := Int.natCast_nonneg (i % W.toNat)
 have y0 := Int.natCast_nonneg (i / W.toNat)
 have e1 : decide (0 ≤ ((i % W.toNat : Nat) : Int) ∧ ((i % W.toNat : Nat) : Int) < 0 + W ∧ 0 ≤ ((i / W.toNat : Nat) : Int) ∧ ((i / W.toNat : Nat) : Int) < 0 + t) = decide (((i / W.toNat : Nat) : Int) < t) := by
  congr 1; rw [eq_iff_iff]; omega
 have e2 : decide (0 ≤ ((i % W.toNat : Nat) : Int) ∧ ((i % W.toNat : Nat) : Int) < 0 + t ∧ 0 ≤ ((i / W.toNat : Nat) : Int) ∧ ((i / W.toNat : Nat) : Int) < 0 + H) = decide (((i % W.toNat : Nat) : Int) < t) := by
  congr 1; rw [eq_iff_iff]; omega
 rw [e0, e1, e2]
 cases decide (((i / W.toNat : Nat) : Int) < t) <;> cases decide (((i % W.toNat : Nat) : Int) < t) <;> simp
/-- Draw of the package is Draw of the reference -/
theorem drwE_R (ws hs : List Int) (t : Int) : drwE ws hs t = drwR ws hs t := by
 unfold drwE drwR
 by_cases h0 : ws.length = 0 ∨ hs.length = 0
 ·rw [if_pos h0, if_pos h0]
 ·rw [if_neg h0, if_neg h0]
  by_cases hb : badI t = true
  ·rw [if_pos (by rw [hb]; simp), if_pos (by rw [hb]; simp)]
  ·have hb' : badI t = false := by simpa using hb
   obtain ⟨t1, t2⟩ := badI_not hb'
   obtain ⟨p1, p2⟩ := extR_neg (l := ws) t1 t2
   obtain ⟨q1, q2⟩ := extR_neg (l := hs) t1 t2
   have e1 : decide (extR ws t < 0) = ws.any badI := by
    rw [Bool.eq_iff_iff, decide_eq_true_iff]; exact p1
   have e2 : decide (extR hs t < 0) = hs.any badI := by
    rw [Bool.eq_iff_iff, decide_eq_true_iff]; exact q1
   rw [e1, e2, hb', Bool.or_false, Bool.false_or]
   by_cases hr : (ws.any badI || hs.any badI) = true
   ·rw [if_pos hr, if_pos hr]
   ·rw [if_neg hr, if_neg hr]
    have ha : ws.any badI = false ∧ hs.any badI = false := by simpa using hr
    rw [p2 ha.1, q2 ha.2]
    have k1 : ∀ n ∈ ws, 1 ≤ n ∧ n ≤ 4096 := fun n hn => badI_not (by have := ha.1; rw [List.any_eq_false] at this; simpa using this n hn)
    have k2 : ∀ n ∈ hs, 1 ≤ n ∧ n ≤ 4096 := fun n hn => badI_not (by have := ha.2; rw [List.any_eq_false] at this; simpa using this n hn)
    have l1 := (extE_le k1 t1 t2).1
    have l2 := (extE_le k2 t1 t2).1
    by_cases hW : 4096 < extE ws t
    ·rw [if_pos (by omega), if_pos (by omega)]
    ·by_cases hH : 4096 < extE hs t
     ·rw [if_pos (by omega), if_pos (by omega)]
     ·rw [show min (extE ws t) 12288 = extE ws t by omega, show min (extE hs t) 12288 = extE hs t by omega]
      by_cases hp : 4096 < extE ws t ∨ 4096 < extE hs t ∨ 4194304 < extE ws t * extE hs t
      ·rw [if_pos hp, if_pos hp]
      ·rw [if_neg hp, if_neg hp]
       congr 2
       apply List.ext_getElem
       ·rw [drwL_len]; simp [drwQ]
       ·intro i h1 h2
        have hi : i < (extE ws t).toNat * (extE hs t).toNat := by
         rw [drwL_len, Int.toNat_mul (by omega) (by omega)] at h1; exact h1
        have hw0 : 0 < (extE ws t).toNat := by omega
        have hx : i % (extE ws t).toNat < (extE ws t).toNat := Nat.mod_lt _ hw0
        have hy : i / (extE ws t).toNat < (extE hs t).toNat := Nat.div_lt_of_lt_mul hi
        have g1 := drwL_at (ws := ws) (hs := hs) t1 (show 0 ≤ extE ws t by omega) (show 0 ≤ extE hs t by omega) (fun n hn => (k1 n hn).1) (fun n hn => (k2 n hn).1) hi
        have g0 : (drwL ws hs t (extE ws t) (extE hs t)).getD i false = (drwL ws hs t (extE ws t) (extE hs t))[i] := by simp [List.getD, h1]
        rw [← g0, g1]
        simp only [drwQ, List.getElem_map, List.getElem_range]
        rw [lndL_at t1 (fun n hn => (k1 n hn).1) hx, lndL_at t1 (fun n hn => (k2 n hn).1) hy]
end Go.Proofs.YtjfgklhifhaaoaaGreat
