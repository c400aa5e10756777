/- Tables in plain lists: what Rules, Grid and Without say of a drawn picture. Conditions: none. -/
import Derived.Test.YtjfgklhifhaaoaaZPF
set_option linter.unusedVariables false
set_option linter.unusedSimpArgs false
namespace Go.Proofs.Ytjfgklhifhaaoaa
section
variable {p : Nat → Nat → Bool} {e g : Nat → Nat} {t m n a0 a1 b0 b1 : Nat} {sp : Bool}
theorem Pic.run_in (h : Pic p e g t m n sp a0 a1 b0 b1) {j : Nat} {x : Nat × Nat} (hx : x ∈ bandR g t n sp a0 a1 b0 b1 j) : x.1 < x.2 ∧ x.2 ≤ g n + t := by
 have ht := h.t1
 unfold bandR at hx
 split at hx
 ·rename_i hc
  obtain ⟨⟨⟨c1, c2⟩, c3, c4⟩, _⟩ := h.cut hc.1
  have k1 := h.gE.le (show b0 ≤ n by omega) (Nat.le_refl _)
  have k2 := h.gE.le (show b1 + 1 ≤ n by omega) (Nat.le_refl _)
  rw [List.mem_append] at hx
  rcases hx with hx | hx
  ·split at hx
   ·rw [List.mem_singleton] at hx; rw [hx]; dsimp only; omega
   ·cases hx
  ·split at hx
   ·rw [List.mem_singleton] at hx; rw [hx]; dsimp only; omega
   ·cases hx
 ·rw [List.mem_singleton] at hx; rw [hx]; dsimp only; omega
theorem bandR_len (g : Nat → Nat) (t n : Nat) (sp : Bool) (a0 a1 b0 b1 j : Nat) : (bandR g t n sp a0 a1 b0 b1 j).length ≤ 2 := by
 unfold bandR
 split
 ·split <;> split <;> simp
 ·simp
theorem linB_len (e g : Nat → Nat) (t m n : Nat) (sp : Bool) (a0 a1 b0 b1 : Nat) (v : Bool) : (linB e g t m n sp a0 a1 b0 b1 v).length ≤ 2 * (m + 1) := by
 unfold linB
 have : ∀ k, ((List.range k).flatMap fun j => (bandR g t n sp a0 a1 b0 b1 j).map (mkR v (e j) t)).length ≤ 2 * k := fun k => by
  induction k with
  | zero => simp
  | succ k ih =>
   rw [List.range_succ, List.flatMap_append, List.length_append]
   have := bandR_len g t n sp a0 a1 b0 b1 k
   simp only [List.flatMap_cons, List.flatMap_nil, List.append_nil, List.length_map]
   omega
 exact this (m + 1)
theorem Pic.line_ok (h : Pic p e g t m n sp a0 a1 b0 b1) (he : e m + t ≤ 4096) (hg : g n + t ≤ 4096) {v : Bool} {r : Ru} (hr : r ∈ linB e g t m n sp a0 a1 b0 b1 v) : okR r = true := by
 unfold linB at hr
 obtain ⟨j, hj, hr⟩ := List.mem_flatMap.1 hr
 rw [List.mem_range] at hj
 obtain ⟨x, hx, rfl⟩ := List.mem_map.1 hr
 have h1 := h.run_in hx
 have h2 := h.eE.le (show j ≤ m by omega) (Nat.le_refl _)
 have ht := h.t1
 rw [okR_iff]
 unfold mkR
 dsimp only
 omega
theorem Pic.line_ne (h : Pic p e g t m n sp a0 a1 b0 b1) (v : Bool) : linB e g t m n sp a0 a1 b0 b1 v ≠ [] := by
 obtain ⟨x, hx⟩ := List.exists_mem_of_ne_nil _ (h.bandne 0)
 refine List.ne_nil_of_mem (a := mkR v (e 0) t x) ?_
 unfold linB
 exact List.mem_flatMap.2 ⟨0, List.mem_range.2 (by omega), List.mem_map.2 ⟨x, hx, rfl⟩⟩
/-- a dark pixel of a band lies on a line -/
theorem Pic.hit (h : Pic p e g t m n sp a0 a1 b0 b1) {y x : Nat} (hy : y < e m + t) (hx : x < g n + t) (hp : p y x = true) (hin : InB e m t y) :
  (∃ j s z, j ≤ m ∧ (s, z) ∈ bandR g t n sp a0 a1 b0 b1 j ∧ (e j ≤ y ∧ y < e j + t) ∧ s ≤ x ∧ x < z) ∨ ∃ j s z, j ≤ n ∧ (s, z) ∈ bandR e t m sp b0 b1 a0 a1 j ∧ (g j ≤ x ∧ x < g j + t) ∧ s ≤ y ∧ y < z := by
 obtain ⟨j, hj, h1, h2⟩ := hin
 obtain ⟨_, hnc⟩ := (h.px y x hy hx).1 hp
 by_cases hc : sp = true ∧ a0 < j ∧ j ≤ a1
 ·obtain ⟨⟨⟨c1, c2⟩, c3, c4⟩, _⟩ := h.cut hc.1
  have hcy := (h.eE.cut hj h1 h2 c1 c2).2 hc.2
  by_cases q1 : x < g b0 + t
  ·by_cases q2 : 0 < b0
   ·refine .inl ⟨j, 0, g b0 + t, hj, ?_, ⟨h1, h2⟩, Nat.zero_le _, q1⟩
    unfold bandR
    rw [if_pos hc, if_pos q2]; simp
   ·have e0 : b0 = 0 := by omega
    rw [e0, h.gE.zero] at q1
    refine .inr ⟨0, 0, e m + t, Nat.zero_le _, ?_, ⟨by rw [h.gE.zero]; omega, by rw [h.gE.zero]; exact q1⟩, Nat.zero_le _, hy⟩
    unfold bandR
    rw [if_neg (by omega)]; simp
  ·by_cases q3 : g (b1 + 1) ≤ x
   ·by_cases q2 : b1 + 1 < n
    ·refine .inl ⟨j, g (b1 + 1), g n + t, hj, ?_, ⟨h1, h2⟩, q3, hx⟩
     unfold bandR
     rw [if_pos hc, if_pos q2]; simp
    ·have e0 : b1 + 1 = n := by omega
     rw [e0] at q3
     refine .inr ⟨n, 0, e m + t, Nat.le_refl _, ?_, ⟨q3, hx⟩, Nat.zero_le _, hy⟩
     unfold bandR
     rw [if_neg (by omega)]; simp
   ·exact absurd ⟨hc.1, hcy, by omega, by omega⟩ hnc
 ·refine .inl ⟨j, 0, g n + t, hj, ?_, ⟨h1, h2⟩, Nat.zero_le _, hx⟩
  unfold bandR
  rw [if_neg hc]; simp
end
/-- what Rules answers -/
theorem pic_rul {M : Bm} {e g : Nat → Nat} {t m n a0 a1 b0 b1 : Nat} {sp : Bool} (hM : bmB M = true) (hw : M.w = ((g n + t : Nat) : Int)) (hh : M.h = ((e m + t : Nat) : Int)) (hp : Pic (rowP M) e g t m n sp a0 a1 b0 b1) (ht : t ≤ 4095) (hm : m ≤ 500) (hn : n ≤ 500) :
  rulE M ((t : Int) + 1) = (linB e g t m n sp a0 a1 b0 b1 false ++ linB g e t n m sp b0 b1 a0 a1 true, 0) := by
 have e1 : M.w.toNat = g n + t := by omega
 have e2 : M.h.toNat = e m + t := by omega
 have e3 : ((t : Int) + 1).toNat = t + 1 := by omega
 have l1 : linR (rowsR M ((t : Int) + 1)) M.h.toNat false = linB e g t m n sp a0 a1 b0 b1 false := by
  unfold rowsR
  rw [e1, e2, e3]
  exact hp.lines false
 have l2 : linR (colsR M ((t : Int) + 1)) M.w.toNat true = linB g e t n m sp b0 b1 a0 a1 true := by
  unfold colsR
  rw [e1, e2, e3]
  exact hp.swap.lines true
 have hl : linE M ((t : Int) + 1) = linB e g t m n sp a0 a1 b0 b1 false ++ linB g e t n m sp b0 b1 a0 a1 true := by
  unfold linE
  rw [l1, l2]
 have k1 := linB_len e g t m n sp a0 a1 b0 b1 false
 have k2 := linB_len g e t n m sp b0 b1 a0 a1 true
 unfold rulE
 rw [if_pos hM, if_pos (by omega), hl, if_neg (by rw [List.length_append]; omega)]
/-- what Grid answers -/
theorem pic_grd {p q : Nat → Nat → Bool} {e g : Nat → Nat} {t m n a0 a1 b0 b1 : Nat} {sp : Bool} (hp : Pic p e g t m n sp a0 a1 b0 b1) (hq : Pic q g e t n m sp b0 b1 a0 a1) (he : e m + t ≤ 4096) (hg : g n + t ≤ 4096) (hm : m ≤ 100) (hn : n ≤ 100) :
  grdE (linB e g t m n sp a0 a1 b0 b1 false ++ linB g e t n m sp b0 b1 a0 a1 true) = (⟨(m : Int), (n : Int), (List.range' 0 (m * n)).flatMap fun x => celW ⟨BdN e t m, BdN g t n, [], []⟩ sp a0 a1 b0 b1 (x / n) (x % n)⟩, 0) := by
 obtain ⟨l, hl⟩ : ∃ l, l = linB e g t m n sp a0 a1 b0 b1 false ++ linB g e t n m sp b0 b1 a0 a1 true := ⟨_, rfl⟩
 obtain ⟨⟨eH, eV⟩, s, hs, mO, mS⟩ := pic_frm hp hq hl
 have k1 := linB_len e g t m n sp a0 a1 b0 b1 false
 have k2 := linB_len g e t n m sp b0 b1 a0 a1 true
 have hlen : l.length ≤ 512 := by rw [hl, List.length_append]; omega
 have hl0 : l.length ≠ 0 := by
  rw [hl, List.length_append]
  have := List.length_pos_iff.2 (hp.line_ne false)
  omega
 have hok : l.all okR = true := by
  rw [List.all_eq_true, hl]
  intro r hr
  rcases List.mem_append.1 hr with hr | hr
  ·exact hp.line_ok he hg hr
  ·exact hq.line_ok hg he hr
 have hc : sp = true → (a0 ≤ a1 ∧ a1 < m) ∧ b0 ≤ b1 ∧ b1 < n := fun h => (hp.cut h).1
 have hcel := pic_cel (f := ⟨BdN e t m, BdN g t n, [], []⟩) (O := mt2 s.O) (S := mt2 s.S) hp.n1 hc mO mS (m * n) 0 (List.replicate (m * n) false) [] (by omega) (by simp) (fun x hx => by
  have : at0 (List.replicate (m * n) false) x = false := by simp [at0, List.getD, hx]
  rw [this]; simp)
 rw [← hl, grd_eq]
 unfold grdR
 rw [if_neg hl0, if_neg (by omega), if_pos hok, hs]
 dsimp only
 rw [eH, eV, BdN_len, BdN_len, Nat.add_sub_cancel, Nat.add_sub_cancel, hcel]
 simp
theorem wipe_zero {W H : Int} {i : Nat} : ∀ (l : List Ru) (d : List Bool), i < d.length → d.getD i false = false → (wipeL W H d l).getD i false = false
 | [], d, _, h => h
 | r :: l, d, hi, h => by
  refine wipe_zero l _ (by rw [pntB_len]; exact hi) ?_
  unfold pntB
  rw [pntL_at _ _ _ _ _ _ _ _ hi]
  split
  ·rfl
  ·exact h
theorem wipe_hit {W H : Int} {i : Nat} {r : Ru} (hc : (boxR r).x.toNat ≤ i % W.toNat ∧ i % W.toNat < (min ((boxR r).x + (boxR r).w) W).toNat ∧ (boxR r).y.toNat ≤ i / W.toNat ∧ i / W.toNat < (min ((boxR r).y + (boxR r).h) H).toNat) : ∀ (l : List Ru) (d : List Bool), i < d.length → r ∈ l → (wipeL W H d l).getD i false = false
 | [], d, _, h => by cases h
 | s :: l, d, hi, h => by
  rcases List.mem_cons.1 h with e | h
  ·refine wipe_zero l _ (by rw [pntB_len]; exact hi) ?_
   unfold pntB
   rw [pntL_at _ _ _ _ _ _ _ _ hi, ← e, if_pos hc]
  ·exact wipe_hit hc l _ (by rw [pntB_len]; exact hi) h
/-- what Without leaves -/
theorem pic_wit {M : Bm} {e g : Nat → Nat} {t m n a0 a1 b0 b1 : Nat} {sp : Bool} (hM : bmB M = true) (hw : M.w = ((g n + t : Nat) : Int)) (hh : M.h = ((e m + t : Nat) : Int)) (hp : Pic (rowP M) e g t m n sp a0 a1 b0 b1) (i : Nat) (hi : i < M.d.length) :
  (wipeL M.w M.h M.d (linB e g t m n sp a0 a1 b0 b1 false ++ linB g e t n m sp b0 b1 a0 a1 true)).getD i false = false := by
 have e1 : M.w.toNat = g n + t := by omega
 have e2 : M.h.toNat = e m + t := by omega
 obtain ⟨_, hd⟩ := bmB_iff.1 hM
 have ht := hp.t1
 have hN : M.d.length = (e m + t) * (g n + t) := by
  rw [hw, hh, ← Int.natCast_mul] at hd
  rw [Nat.mul_comm]; omega
 have hW0 : 0 < g n + t := by omega
 have hx : i % (g n + t) < g n + t := Nat.mod_lt _ hW0
 have hy : i / (g n + t) < e m + t := Nat.div_lt_of_lt_mul (by rw [Nat.mul_comm, ← hN]; exact hi)
 cases hv : M.d.getD i false
 ·exact wipe_zero _ _ hi hv
 ·have hpx : rowP M (i / (g n + t)) (i % (g n + t)) = true := by
   unfold rowP
   rw [e1, Nat.mul_comm, Nat.div_add_mod]; exact hv
  have fin : ((∃ j s z, j ≤ m ∧ (s, z) ∈ bandR g t n sp a0 a1 b0 b1 j ∧ (e j ≤ i / (g n + t) ∧ i / (g n + t) < e j + t) ∧ s ≤ i % (g n + t) ∧ i % (g n + t) < z) ∨ ∃ j s z, j ≤ n ∧ (s, z) ∈ bandR e t m sp b0 b1 a0 a1 j ∧ (g j ≤ i % (g n + t) ∧ i % (g n + t) < g j + t) ∧ s ≤ i / (g n + t) ∧ i / (g n + t) < z) := by
   rcases ((hp.px _ _ hy hx).1 hpx).1 with hin | hin
   ·exact hp.hit hy hx hpx hin
   ·exact (hp.swap.hit hx hy hpx hin).symm
  rcases fin with ⟨j, s, z, hj, hm, ⟨q1, q2⟩, q3, q4⟩ | ⟨j, s, z, hj, hm, ⟨q1, q2⟩, q3, q4⟩
  ·refine wipe_hit (r := mkR false (e j) t (s, z)) ?_ _ _ hi (List.mem_append_left _ ?_)
   ·have := (hp.run_in hm)
    dsimp only at this
    unfold mkR boxR
    rw [e1]
    simp only [Bool.false_eq_true, if_false]
    omega
   ·unfold linB
    exact List.mem_flatMap.2 ⟨j, List.mem_range.2 (by omega), List.mem_map.2 ⟨_, hm, rfl⟩⟩
  ·refine wipe_hit (r := mkR true (g j) t (s, z)) ?_ _ _ hi (List.mem_append_right _ ?_)
   ·have := (hp.swap.run_in hm)
    dsimp only at this
    unfold mkR boxR
    rw [e1]
    simp only [if_true]
    omega
   ·unfold linB
    exact List.mem_flatMap.2 ⟨j, List.mem_range.2 (by omega), List.mem_map.2 ⟨_, hm, rfl⟩⟩
end Go.Proofs.Ytjfgklhifhaaoaa
/- Tables in plain lists: the drawn picture of a table, a rectangle of places cleared, is a picture. Conditions: none. -/
namespace Go.Proofs.Ytjfgklhifhaaoaa
/-- where line i begins -/
def edgE (l : List Int) (t : Int) : Nat → Int
 | 0 => 0
 | i + 1 => edgE l t i + t + l.getD i 0
theorem edg_cons (a : Int) (l : List Int) (t : Int) : ∀ j, edgE (a :: l) t (j + 1) = t + a + edgE l t j
 | 0 => by simp [edgE]
 | j + 1 => by
  show edgE (a :: l) t (j + 1) + t + (a :: l).getD (j + 1) 0 = _
  rw [edg_cons a l t j]
  show _ = t + a + (edgE l t j + t + l.getD j 0)
  simp
  omega
theorem inL_iff {t p : Int} : ∀ {l : List Int} {s : Int}, inL t l s p = true ↔ ∃ j, j < l.length ∧ s - t + edgE l t (j + 1) ≤ p ∧ p < s - t + edgE l t (j + 1) + t
 | [], s => by simp [inL]
 | a :: l, s => by
  rw [inL, Bool.or_eq_true, decide_eq_true_iff, inL_iff (l := l)]
  constructor
  ·rintro (h | ⟨j, hj, h1, h2⟩)
   ·refine ⟨0, by simp, ?_⟩
    rw [edg_cons]
    show s - t + (t + a + 0) ≤ p ∧ p < s - t + (t + a + 0) + t
    omega
   ·refine ⟨j + 1, by simpa using hj, ?_⟩
    rw [edg_cons]
    omega
  ·rintro ⟨j, hj, h⟩
   rw [edg_cons] at h
   match j, hj, h with
   | 0, _, h =>
    left
    have h' : s - t + (t + a + 0) ≤ p ∧ p < s - t + (t + a + 0) + t := h
    omega
   | j + 1, hj, h => exact .inr ⟨j, by simpa using hj, by omega⟩
theorem ext_edg (t : Int) : ∀ (l : List Int) (s : Int), l.foldl (fun s n => s + (n + t)) s = s + edgE l t l.length
 | [], s => by simp [edgE]
 | a :: l, s => by
  rw [List.foldl_cons, ext_edg t l, List.length_cons, edg_cons]
  omega
theorem extE_edg (l : List Int) (t : Int) : extE l t = edgE l t l.length + t := by
 unfold extE
 rw [ext_edg]; omega
/-- in natural numbers -/
def eN (l : List Int) (t : Nat) (j : Nat) : Nat := (edgE l (t : Int) j).toNat
theorem edg_pos {l : List Int} {t : Nat} (h : ∀ n ∈ l, 1 ≤ n) : ∀ j, j ≤ l.length → 0 ≤ edgE l (t : Int) j ∧ (j < l.length → edgE l (t : Int) j + t + 1 ≤ edgE l (t : Int) (j + 1))
 | 0, _ => ⟨Int.le_refl _, fun hj => by
  show (0 : Int) + t + 1 ≤ 0 + (t : Int) + l.getD 0 0
  rw [List.getD_eq_getElem?_getD, List.getElem?_eq_getElem hj]
  have := h _ (List.getElem_mem hj)
  simp only [Option.getD_some]; omega⟩
 | j + 1, hj => by
  obtain ⟨h1, h2⟩ := edg_pos (t := t) h j (by omega)
  have h3 := h2 (by omega)
  refine ⟨by omega, fun hj2 => ?_⟩
  show edgE l (t : Int) (j + 1) + t + 1 ≤ edgE l (t : Int) (j + 1) + t + l.getD (j + 1) 0
  rw [List.getD_eq_getElem?_getD, List.getElem?_eq_getElem hj2]
  have := h _ (List.getElem_mem hj2)
  simp only [Option.getD_some]; omega
theorem eN_edg {l : List Int} {t : Nat} (h : ∀ n ∈ l, 1 ≤ n) : Edg (eN l t) t l.length := by
 refine ⟨rfl, fun j hj => ?_⟩
 obtain ⟨h1, h2⟩ := edg_pos (t := t) h j (by omega)
 have := h2 hj
 unfold eN
 omega
theorem eN_int {l : List Int} {t : Nat} (h : ∀ n ∈ l, 1 ≤ n) {j : Nat} (hj : j ≤ l.length) : ((eN l t j : Nat) : Int) = edgE l (t : Int) j := by
 have := (edg_pos (t := t) h j hj).1
 unfold eN; omega
theorem in_edg {l : List Int} {t : Nat} (h : ∀ n ∈ l, 1 ≤ n) {y : Nat} : (decide ((y : Int) < (t : Int)) || inL (t : Int) l (t : Int) (y : Int)) = true ↔ InB (eN l t) l.length t y := by
 rw [Bool.or_eq_true, decide_eq_true_iff, inL_iff]
 unfold InB
 constructor
 ·rintro (h1 | ⟨j, hj, h1, h2⟩)
  ·exact ⟨0, Nat.zero_le _, by show 0 ≤ y; omega, by show y < 0 + t; omega⟩
  ·have := eN_int (t := t) h (show j + 1 ≤ l.length by omega)
   exact ⟨j + 1, by omega, by omega, by omega⟩
 ·rintro ⟨j, hj, h1, h2⟩
  have hi := eN_int (t := t) h hj
  match j, hj, h1, h2, hi with
  | 0, _, h1, h2, _ =>
   left
   have : y < 0 + t := h2
   omega
  | j + 1, hj, h1, h2, hi => exact .inr ⟨j, by omega, by omega, by omega⟩
/-- the pixels, the span's inside cleared -/
def picD (ws hs : List Int) (t : Nat) (sp : Bool) (a0 a1 b0 b1 : Nat) : List Bool :=
 if sp then pntL (drwL ws hs t (extE ws t) (extE hs t)) (extE ws t).toNat (eN ws t b0 + t) (eN hs t a0 + t) (eN ws t (b1 + 1)) (eN hs t (a1 + 1)) false else drwL ws hs t (extE ws t) (extE hs t)
theorem pic_of {ws hs : List Int} {t : Nat} {sp : Bool} {a0 a1 b0 b1 : Nat} (ht : 1 ≤ t) (hw : ∀ n ∈ ws, 1 ≤ n) (hh : ∀ n ∈ hs, 1 ≤ n) (w1 : 1 ≤ ws.length) (h1 : 1 ≤ hs.length)
  (hc : sp = true → ((a0 ≤ a1 ∧ a1 < hs.length) ∧ b0 ≤ b1 ∧ b1 < ws.length) ∧ (a0 < a1 → ¬ (b0 = 0 ∧ b1 + 1 = ws.length)) ∧ (b0 < b1 → ¬ (a0 = 0 ∧ a1 + 1 = hs.length))) :
  Pic (rowP ⟨extE ws t, extE hs t, picD ws hs t sp a0 a1 b0 b1⟩) (eN hs t) (eN ws t) t hs.length ws.length sp a0 a1 b0 b1 := by
 have e1 : extE ws t = ((eN ws t ws.length + t : Nat) : Int) := by rw [extE_edg, ← eN_int hw (Nat.le_refl _)]; omega
 have e2 : extE hs t = ((eN hs t hs.length + t : Nat) : Int) := by rw [extE_edg, ← eN_int hh (Nat.le_refl _)]; omega
 refine ⟨ht, eN_edg hh, eN_edg hw, h1, w1, hc, fun y x hy hx => ?_⟩
 have t1 : (extE ws t).toNat = eN ws t ws.length + t := by omega
 have t2 : (extE hs t).toNat = eN hs t hs.length + t := by omega
 have hi : y * (eN ws t ws.length + t) + x < (eN hs t hs.length + t) * (eN ws t ws.length + t) := pl_lt hy hx
 have hm : (y * (eN ws t ws.length + t) + x) % (eN ws t ws.length + t) = x := pl_mod hx
 have hd : (y * (eN ws t ws.length + t) + x) / (eN ws t ws.length + t) = y := pl_div hx
 have hdr : (drwL ws hs t (extE ws t) (extE hs t)).getD (y * (eN ws t ws.length + t) + x) false = true ↔ InB (eN hs t) hs.length t y ∨ InB (eN ws t) ws.length t x := by
  rw [drwL_at (by omega) (by omega) (by omega) hw hh (by rw [t1, t2, Nat.mul_comm (eN ws t ws.length + t) (eN hs t hs.length + t)]; exact hi), t1, hm, hd, Bool.or_eq_true, in_edg hw, in_edg hh]
  exact Or.comm
 have hlen : y * (eN ws t ws.length + t) + x < (drwL ws hs t (extE ws t) (extE hs t)).length := by
  rw [drwL_len, e1, e2, ← Int.natCast_mul, Int.toNat_natCast, Nat.mul_comm (eN ws t ws.length + t) (eN hs t hs.length + t)]; exact hi
 unfold rowP picD
 dsimp only
 rw [t1]
 cases sp
 ·rw [if_neg (by simp), hdr]
  simp
 ·rw [if_pos rfl, pntL_at _ _ _ _ _ _ _ _ hlen, hm, hd]
  by_cases q : eN ws t b0 + t ≤ x ∧ x < eN ws t (b1 + 1) ∧ eN hs t a0 + t ≤ y ∧ y < eN hs t (a1 + 1)
  ·rw [if_pos q]
   constructor
   ·intro h; cases h
   ·rintro ⟨_, h⟩
    exact absurd ⟨rfl, ⟨q.2.2.1, q.2.2.2⟩, q.1, q.2.1⟩ h
  ·rw [if_neg q, hdr]
   exact ⟨fun h => ⟨h, fun r => q ⟨r.2.2.1, r.2.2.2, r.2.1.1, r.2.1.2⟩⟩, fun h => h.1⟩
end Go.Proofs.Ytjfgklhifhaaoaa
/- Tables in plain lists: what the law of a drawn table says, joined. Conditions: at most 6 rows and columns of at most 20 pixels. -/
namespace Go.Proofs.Ytjfgklhifhaaoaa
theorem flat_rows {α : Type} (F : Nat → Nat → List α) {n : Nat} (hn : 1 ≤ n) : ∀ m, ((List.range' 0 (m * n)).flatMap fun x => F (x / n) (x % n)) = (List.range m).flatMap fun r => (List.range n).flatMap fun c => F r c
 | 0 => by simp
 | m + 1 => by
  have e : List.range' 0 ((m + 1) * n) = List.range' 0 (m * n) ++ (List.range n).map fun c => m * n + c := by
   rw [Nat.add_mul, Nat.one_mul, ← List.range'_append (s := 0) (m := m * n) (n := n) (step := 1)]
   congr 1
   rw [List.range'_eq_map_range]
   simp
  rw [e, List.flatMap_append, flat_rows F hn m, List.range_succ, List.flatMap_append]
  congr 1
  rw [List.flatMap_map]
  simp only [List.flatMap_cons, List.flatMap_nil, List.append_nil]
  have : ∀ (L : List Nat), (∀ c ∈ L, c < n) → (L.flatMap fun c => F ((m * n + c) / n) ((m * n + c) % n)) = L.flatMap fun c => F m c := fun L => by
   induction L with
   | nil => intro _; rfl
   | cons a L ih =>
    intro h
    have ha := h a (List.mem_cons_self ..)
    rw [List.flatMap_cons, List.flatMap_cons, pl_div ha, pl_mod ha, ih fun c hc => h c (List.mem_cons_of_mem _ hc)]
  exact this _ fun c hc => List.mem_range.1 hc
theorem BdN_at {e : Nat → Nat} {t m j : Nat} (h : j ≤ m) : (BdN e t m).getD j (0, 0) = ((e j : Int), (t : Int)) := by
 have hl : j < (BdN e t m).length := by rw [BdN_len]; omega
 rw [List.getD_eq_getElem?_getD, List.getElem?_eq_getElem hl, BdN_get hl]; rfl
/-- a cell's box -/
theorem box_at {e g : Nat → Nat} {t m n r c re ce : Nat} (h1 : r ≤ re) (h2 : re ≤ m) (h3 : c ≤ ce) (h4 : ce ≤ n) : boxC ⟨BdN e t m, BdN g t n, [], []⟩ (ceR r c re ce) = ⟨r, c, (re : Int) - r, (ce : Int) - c, ⟨(g c : Int) + t, (e r : Int) + t, (g ce : Int) - ((g c : Int) + t), (e re : Int) - ((e r : Int) + t)⟩⟩ := by
 unfold boxC ceR
 dsimp only
 have e1 : ((c : Int) + ((ce - c : Nat) : Int)).toNat = ce := by omega
 have e2 : ((r : Int) + ((re - r : Nat) : Int)).toNat = re := by omega
 rw [e1, e2, Int.toNat_natCast, Int.toNat_natCast, BdN_at h4, BdN_at h2, BdN_at (show c ≤ n by omega), BdN_at (show r ≤ m by omega)]
 congr 1 <;> omega
theorem edg_small {l : List Int} {t : Nat} (ht : t ≤ 4) (h : ∀ n ∈ l, n ≤ 20) : ∀ j, j ≤ l.length → edgE l (t : Int) j ≤ 24 * (j : Int)
 | 0, _ => by simp [edgE]
 | j + 1, hj => by
  have ih := edg_small ht h j (by omega)
  show edgE l (t : Int) j + t + l.getD j 0 ≤ _
  rw [List.getD_eq_getElem?_getD, List.getElem?_eq_getElem (show j < l.length by omega)]
  have := h _ (List.getElem_mem (show j < l.length by omega))
  simp only [Option.getD_some]; omega
/-- the law's plain part -/
theorem grid_law {ws hs : List Int} {t : Nat} {sp : Bool} {a0 a1 b0 b1 : Nat} (h1 : 1 ≤ t) (h4 : t ≤ 4) (hw : ∀ n ∈ ws, (t : Int) < n ∧ n ≤ 20) (hh : ∀ n ∈ hs, (t : Int) < n ∧ n ≤ 20) (w1 : 1 ≤ ws.length) (w6 : ws.length ≤ 6) (l1 : 1 ≤ hs.length) (l6 : hs.length ≤ 6)
  (hc : sp = true → ((a0 ≤ a1 ∧ a1 < hs.length) ∧ b0 ≤ b1 ∧ b1 < ws.length) ∧ (a0 < a1 → ¬ (b0 = 0 ∧ b1 + 1 = ws.length)) ∧ (b0 < b1 → ¬ (a0 = 0 ∧ a1 + 1 = hs.length))) :
  drwE ws hs t = (⟨extE ws t, extE hs t, drwL ws hs t (extE ws t) (extE hs t)⟩, 0) ∧
  ∃ l, rulE ⟨extE ws t, extE hs t, picD ws hs t sp a0 a1 b0 b1⟩ ((t : Int) + 1) = (l, 0) ∧
   grdE l = (⟨(hs.length : Int), (ws.length : Int), (List.range hs.length).flatMap fun r => (List.range ws.length).flatMap fun c => celW ⟨BdN (eN hs t) t hs.length, BdN (eN ws t) t ws.length, [], []⟩ sp a0 a1 b0 b1 r c⟩, 0) ∧
   witE ⟨extE ws t, extE hs t, picD ws hs t sp a0 a1 b0 b1⟩ l = (⟨extE ws t, extE hs t, List.replicate (picD ws hs t sp a0 a1 b0 b1).length false⟩, 0) := by
 have hw1 : ∀ n ∈ ws, 1 ≤ n := fun n hn => by have := hw n hn; omega
 have hh1 : ∀ n ∈ hs, 1 ≤ n := fun n hn => by have := hh n hn; omega
 have bw := edg_small h4 (fun n hn => (hw n hn).2) ws.length (Nat.le_refl _)
 have bh := edg_small h4 (fun n hn => (hh n hn).2) hs.length (Nat.le_refl _)
 have e1 : extE ws t = ((eN ws t ws.length + t : Nat) : Int) := by rw [extE_edg, ← eN_int hw1 (Nat.le_refl _)]; omega
 have e2 : extE hs t = ((eN hs t hs.length + t : Nat) : Int) := by rw [extE_edg, ← eN_int hh1 (Nat.le_refl _)]; omega
 have g1 : eN ws t ws.length ≤ 144 := by have := eN_int (t := t) hw1 (Nat.le_refl ws.length); omega
 have g2 : eN hs t hs.length ≤ 144 := by have := eN_int (t := t) hh1 (Nat.le_refl hs.length); omega
 have hprod : extE ws t * extE hs t ≤ 4194304 := by
  have : (eN ws t ws.length + t) * (eN hs t hs.length + t) ≤ 148 * 148 := Nat.mul_le_mul (by omega) (by omega)
  rw [e1, e2, ← Int.natCast_mul]; omega
 have hp := pic_of (sp := sp) (a0 := a0) (a1 := a1) (b0 := b0) (b1 := b1) h1 hw1 hh1 w1 l1 hc
 have hlen : ((picD ws hs t sp a0 a1 b0 b1).length : Int) = extE ws t * extE hs t := by
  have : (picD ws hs t sp a0 a1 b0 b1).length = (drwL ws hs t (extE ws t) (extE hs t)).length := by
   unfold picD
   split
   ·rw [pntL_len]
   ·rfl
  rw [this, drwL_len, e1, e2, ← Int.natCast_mul]; omega
 have hb : bmB ⟨extE ws t, extE hs t, picD ws hs t sp a0 a1 b0 b1⟩ = true := bmB_iff.2 ⟨⟨by dsimp only; omega, by dsimp only; omega, by dsimp only; omega, by dsimp only; omega, hprod⟩, hlen⟩
 refine ⟨?_, _, pic_rul hb e1 e2 hp (by omega) (by omega) (by omega), ?_, ?_⟩
 ·have nb : ∀ n : Int, 1 ≤ n → n ≤ 4096 → badI n = false := fun n q1 q2 => by unfold badI; rw [decide_eq_false_iff_not]; omega
  have n1 : ws.any badI = false := by
   rw [List.any_eq_false]
   intro n hn
   have := hw n hn
   rw [nb n (by omega) (by omega)]; simp
  have n2 : hs.any badI = false := by
   rw [List.any_eq_false]
   intro n hn
   have := hh n hn
   rw [nb n (by omega) (by omega)]; simp
  unfold drwE
  rw [if_neg (by omega), n1, n2, nb t (by omega) (by omega), if_neg (by simp), if_neg (by omega)]
 ·rw [pic_grd hp hp.swap (by omega) (by omega) (by omega) (by omega), flat_rows _ w1]
 ·have k1 := linB_len (eN hs t) (eN ws t) t hs.length ws.length sp a0 a1 b0 b1 false
  have k2 := linB_len (eN ws t) (eN hs t) t ws.length hs.length sp b0 b1 a0 a1 true
  unfold witE
  rw [if_pos hb, if_neg (by rw [List.length_append]; omega), if_pos (by
   rw [List.all_eq_true]
   intro r hr
   rcases List.mem_append.1 hr with hr | hr
   ·exact hp.line_ok (by omega) (by omega) hr
   ·exact hp.swap.line_ok (by omega) (by omega) hr)]
  congr 2
  apply List.ext_getElem
  ·rw [wipeL_len, List.length_replicate]
  ·intro i q1 q2
   have hi : i < (picD ws hs t sp a0 a1 b0 b1).length := by simpa using q2
   have := pic_wit hb e1 e2 hp i hi
   rw [List.getD_eq_getElem?_getD, List.getElem?_eq_getElem q1] at this
   simpa using this
end Go.Proofs.Ytjfgklhifhaaoaa
/- Tables in plain lists: the numbers of the law Grid under letters. Conditions: at most 6 rows and columns of at most 20 pixels. -/
namespace Go.Proofs.Ytjfgklhifhaaoaa
/-- a list that is made row by row -/
def wantK {α : Type} (F : Nat → Nat → List α) (n r c : Nat) : List α := ((List.range r).flatMap fun r => (List.range n).flatMap fun c => F r c) ++ (List.range c).flatMap fun c => F r c
theorem wantK_0 {α : Type} (F : Nat → Nat → List α) (n : Nat) : wantK F n 0 0 = [] := rfl
theorem wantK_s {α : Type} (F : Nat → Nat → List α) (n r c : Nat) : wantK F n r (c + 1) = wantK F n r c ++ F r c := by
 unfold wantK
 rw [List.range_succ, List.flatMap_append, ← List.append_assoc]
 simp
theorem wantK_r {α : Type} (F : Nat → Nat → List α) (n r : Nat) : wantK F n r n = wantK F n (r + 1) 0 := by
 unfold wantK
 rw [List.range_succ, List.flatMap_append]
 simp
theorem wantK_len {α : Type} {F : Nat → Nat → List α} (h : ∀ r c, (F r c).length ≤ 1) (n : Nat) : ∀ r c, (wantK F n r c).length ≤ r * n + c
 | 0, 0 => by simp [wantK_0]
 | r + 1, 0 => by
  rw [← wantK_r, Nat.add_mul, Nat.one_mul]
  exact wantK_len h n r n
 | r, c + 1 => by
  rw [wantK_s, List.length_append]
  have := h r c
  have := wantK_len h n r c
  omega
termination_by r c => (r, c)
/-- a cell of the law -/
def kelN (xs ys : Nat → Nat) (t r c rs cs : Nat) : Ce := ⟨r, c, rs, cs, ⟨((xs c + t : Nat) : Int), ((ys r + t : Nat) : Int), (xs (c + cs) : Int) - xs c - t, (ys (r + rs) : Int) - ys r - t⟩⟩
def kelF (xs ys : Nat → Nat) (t : Nat) (sp : Bool) (a0 a1 b0 b1 r c : Nat) : List Ce :=
 if InS sp a0 a1 b0 b1 r c then (if r = a0 ∧ c = b0 then [kelN xs ys t r c (a1 - a0 + 1) (b1 - b0 + 1)] else []) else [kelN xs ys t r c 1 1]
theorem kelF_len (xs ys : Nat → Nat) (t : Nat) (sp : Bool) (a0 a1 b0 b1 r c : Nat) : (kelF xs ys t sp a0 a1 b0 b1 r c).length ≤ 1 := by
 unfold kelF
 split
 ·split
  ·exact Nat.le_refl _
  ·exact Nat.zero_le _
 ·exact Nat.le_refl _
theorem kelF_cel {xs ys : Nat → Nat} {t m n : Nat} {sp : Bool} {a0 a1 b0 b1 r c : Nat} (hr : r < m) (hc : c < n) (hs : sp = true → (a0 ≤ a1 ∧ a1 < m) ∧ b0 ≤ b1 ∧ b1 < n) :
  celW ⟨BdN ys t m, BdN xs t n, [], []⟩ sp a0 a1 b0 b1 r c = kelF xs ys t sp a0 a1 b0 b1 r c := by
 unfold celW kelF
 split
 ·rename_i hi
  have hsp : sp = true := hi.1
  obtain ⟨⟨q1, q2⟩, q3, q4⟩ := hs hsp
  split
  ·rename_i he
   obtain ⟨rfl, rfl⟩ := he
   rw [box_at (by omega) (by omega) (by omega) (by omega)]
   have e1 : r + (a1 - r + 1) = a1 + 1 := by omega
   have e2 : c + (b1 - c + 1) = b1 + 1 := by omega
   unfold kelN
   rw [e1, e2]
   congr 2 <;> first | omega | (congr 1 <;> omega)
  ·rfl
 ·rw [box_at (by omega) (by omega) (by omega) (by omega)]
  unfold kelN
  congr 2 <;> first | omega | (congr 1 <;> omega)
theorem flat_congr {α β : Type} {f g : α → List β} : ∀ {l : List α}, (∀ x ∈ l, f x = g x) → l.flatMap f = l.flatMap g
 | [], _ => rfl
 | a :: l, h => by rw [List.flatMap_cons, List.flatMap_cons, h a (List.mem_cons_self ..), flat_congr fun x hx => h x (List.mem_cons_of_mem _ hx)]
/-- the law's plain part under letters -/
theorem grid_pack {ws hs : List Int} {t : Nat} (h1 : 1 ≤ t) (h4 : t ≤ 4) (hw : ∀ n ∈ ws, (t : Int) < n ∧ n ≤ 20) (hh : ∀ n ∈ hs, (t : Int) < n ∧ n ≤ 20) (w1 : 1 ≤ ws.length) (w6 : ws.length ≤ 6) (l1 : 1 ≤ hs.length) (l6 : hs.length ≤ 6) :
  ∃ (xs ys : Nat → Nat) (W H : Nat) (D : List Bool), drwE ws hs t = (⟨(W : Int), (H : Int), D⟩, 0) ∧
   (∀ j, j ≤ ws.length → edgE ws (t : Int) j = (xs j : Int)) ∧ (∀ j, j ≤ hs.length → edgE hs (t : Int) j = (ys j : Int)) ∧
   (W = xs ws.length + t ∧ H = ys hs.length + t) ∧ D.length = W * H ∧
   (∀ j, j ≤ ws.length → xs j ≤ 144) ∧ (∀ j, j ≤ hs.length → ys j ≤ 144) ∧
   (∀ i j, i < j → j ≤ ws.length → xs i + t + 1 ≤ xs j) ∧ (∀ i j, i < j → j ≤ hs.length → ys i + t + 1 ≤ ys j) ∧
   ∀ (sp : Bool) (a0 a1 b0 b1 : Nat), (sp = true → ((a0 ≤ a1 ∧ a1 < hs.length) ∧ b0 ≤ b1 ∧ b1 < ws.length) ∧ (a0 < a1 → ¬ (b0 = 0 ∧ b1 + 1 = ws.length)) ∧ (b0 < b1 → ¬ (a0 = 0 ∧ a1 + 1 = hs.length))) →
    ∃ l, rulE ⟨(W : Int), (H : Int), if sp then pntL D W (xs b0 + t) (ys a0 + t) (xs (b1 + 1)) (ys (a1 + 1)) false else D⟩ ((t : Int) + 1) = (l, 0) ∧
     grdE l = (⟨(hs.length : Int), (ws.length : Int), wantK (kelF xs ys t sp a0 a1 b0 b1) ws.length hs.length 0⟩, 0) ∧
     witE ⟨(W : Int), (H : Int), if sp then pntL D W (xs b0 + t) (ys a0 + t) (xs (b1 + 1)) (ys (a1 + 1)) false else D⟩ l = (⟨(W : Int), (H : Int), List.replicate (W * H) false⟩, 0) := by
 have hw1 : ∀ n ∈ ws, 1 ≤ n := fun n hn => by have := hw n hn; omega
 have hh1 : ∀ n ∈ hs, 1 ≤ n := fun n hn => by have := hh n hn; omega
 have e1 : extE ws t = ((eN ws t ws.length + t : Nat) : Int) := by rw [extE_edg, ← eN_int hw1 (Nat.le_refl _)]; omega
 have e2 : extE hs t = ((eN hs t hs.length + t : Nat) : Int) := by rw [extE_edg, ← eN_int hh1 (Nat.le_refl _)]; omega
 have bw := fun j hj => edg_small (l := ws) h4 (fun n hn => (hw n hn).2) j hj
 have bh := fun j hj => edg_small (l := hs) h4 (fun n hn => (hh n hn).2) j hj
 have mono : ∀ (l : List Int), (∀ n ∈ l, 1 ≤ n) → ∀ i j, i < j → j ≤ l.length → eN l t i + t + 1 ≤ eN l t j := by
  intro l hl i j hij hj
  induction j with
  | zero => omega
  | succ j ih =>
   have hE := eN_edg (t := t) hl
   have hs := hE.2 j (by omega)
   by_cases e : i = j
   ·subst e; omega
   ·have := ih (by omega) (by omega); omega
 refine ⟨eN ws t, eN hs t, eN ws t ws.length + t, eN hs t hs.length + t, drwL ws hs t (extE ws t) (extE hs t), ?_, fun j hj => (eN_int hw1 hj).symm, fun j hj => (eN_int hh1 hj).symm, ⟨rfl, rfl⟩, ?_, fun j hj => ?_, fun j hj => ?_, mono ws hw1, mono hs hh1, fun sp a0 a1 b0 b1 hc => ?_⟩
 ·obtain ⟨hd, -⟩ := grid_law (sp := false) (a0 := 0) (a1 := 0) (b0 := 0) (b1 := 0) h1 h4 hw hh w1 w6 l1 l6 (fun h => by cases h)
  rw [hd]
  congr 2
 ·rw [drwL_len, e1, e2, ← Int.natCast_mul]; omega
 ·have := bw j hj
  have := eN_int (t := t) hw1 hj
  omega
 ·have := bh j hj
  have := eN_int (t := t) hh1 hj
  omega
 ·obtain ⟨-, l, q1, q2, q3⟩ := grid_law h1 h4 hw hh w1 w6 l1 l6 hc
  have ep : picD ws hs t sp a0 a1 b0 b1 = if sp then pntL (drwL ws hs t (extE ws t) (extE hs t)) (eN ws t ws.length + t) (eN ws t b0 + t) (eN hs t a0 + t) (eN ws t (b1 + 1)) (eN hs t (a1 + 1)) false else drwL ws hs t (extE ws t) (extE hs t) := by
   unfold picD
   have : (extE ws t).toNat = eN ws t ws.length + t := by omega
   rw [this]
  have elen : (picD ws hs t sp a0 a1 b0 b1).length = (eN ws t ws.length + t) * (eN hs t hs.length + t) := by
   have : (picD ws hs t sp a0 a1 b0 b1).length = (drwL ws hs t (extE ws t) (extE hs t)).length := by
    unfold picD
    split
    ·rw [pntL_len]
    ·rfl
   rw [this, drwL_len, e1, e2, ← Int.natCast_mul]; omega
  rw [elen] at q3
  rw [← e1, ← e2, ← ep]
  refine ⟨l, q1, ?_, q3⟩
  rw [q2]
  congr 2
  unfold wantK
  rw [show (List.range 0).flatMap (fun c => kelF (eN ws t) (eN hs t) t sp a0 a1 b0 b1 hs.length c) = [] from rfl, List.append_nil]
  exact flat_congr fun r hr => flat_congr fun c hc2 => kelF_cel (List.mem_range.1 hr) (List.mem_range.1 hc2) fun h => (hc h).1
end Go.Proofs.Ytjfgklhifhaaoaa
