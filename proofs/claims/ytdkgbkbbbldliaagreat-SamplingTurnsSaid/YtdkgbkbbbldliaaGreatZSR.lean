/- Sampling in plain Lean: the laws of the faithful image, of shifts and of a turn. Conditions: none. -/
import Derived.Test.YtdkgbkbbbldliaaGreatZSA
set_option linter.unusedVariables false
set_option linter.unusedSimpArgs false
namespace Go.Proofs.YtdkgbkbbbldliaaGreat
open Go.RowKit Big
theorem Ek {c r : Int} (hc : 0 < c) {p : Int × Int} (h : p ∈ ptsB c r) : 0 ≤ p.1 ∧ p.1 < c ∧ 0 ≤ p.2 ∧ p.2 < r := by
 obtain ⟨i, hi, rfl⟩ := List.mem_map.1 h
 rw [List.mem_range] at hi
 have h1 : (i : Int) < c * r := by omega
 refine ⟨Int.emod_nonneg _ (by omega), Int.emod_lt_of_pos _ hc, Int.ediv_nonneg (by omega) (by omega), ?_⟩
 rw [Int.ediv_lt_iff_lt_mul hc, Int.mul_comm]
 exact h1
theorem pix_of {c r : Int} (f : Int × Int → Bool) {x y : Int} (hx : 0 ≤ x ∧ x < c) (hy : 0 ≤ y ∧ y < r) : pixZ ⟨c, r, (ptsB c r).map f⟩ x y = f (x, y) := by
 obtain ⟨h, e⟩ := Em hx hy
 unfold pixZ
 rw [Qd.2 ⟨hx.1, hx.2, hy.1, hy.2⟩, Bool.true_and]
 simp only [List.getD_eq_getElem?_getD]
 rw [List.getElem?_map, List.getElem?_eq_getElem h, e]
 rfl
theorem bm_pix {m : Bm} (hm : bmB m = true) : (ptsB m.w m.h).map (fun p => pixZ m p.1 p.2) = m.d := by
 obtain ⟨⟨a, _, b, _, _⟩, hl⟩ := W5.1 hm
 have hL : (ptsB m.w m.h).length = m.d.length := by rw [Hp]; omega
 refine List.ext_getElem (by simpa using hL) fun i h1 h2 => ?_
 have h3 : i < (ptsB m.w m.h).length := by omega
 rw [List.getElem_map]
 have hp := Ek (by omega) (List.getElem_mem h3)
 rw [Ei h3] at hp ⊢
 unfold pixZ
 rw [Qd.2 hp, Bool.true_and]
 have e : ((i : Int) / m.w * m.w + (i : Int) % m.w).toNat = i := by
  rw [Int.mul_comm, Int.mul_ediv_add_emod]; omega
 dsimp only
 rw [e, List.getD_eq_getElem?_getD, List.getElem?_eq_getElem h2]
 rfl
theorem faithful_law {m : Bm} (hm : bmB m = true) {N M : List Int} {a b : Int} (h : (ptsB m.w m.h).all (Xt N M a b) = true) :
  allP N m.w m.h = true ∧ smpL ⟨a, b, smpL m M a b⟩ N m.w m.h = m.d := by
 rw [List.all_eq_true] at h
 refine ⟨?_, ?_⟩
 ·unfold allP
  rw [List.all_eq_true]
  intro p hp
  have := h p hp
  unfold Xt at this
  cases hq : posZ N p.1 p.2 with
  | none => rw [hq] at this; simp at this
  | some q => rfl
 ·rw [← bm_pix hm]
  unfold smpL
  refine List.map_congr_left fun p hp => ?_
  have h1 := h p hp
  unfold Xt at h1
  unfold atB
  cases hq : posZ N p.1 p.2 with
  | none => rw [hq] at h1; simp at h1
  | some q =>
   rw [hq] at h1
   dsimp only at h1 ⊢
   rw [Bool.and_eq_true, Qd, decide_eq_true_iff] at h1
   obtain ⟨⟨c, d, e, f⟩, h2⟩ := h1
   have h3 := pix_of (c := a) (r := b) (atB m M) ⟨c, d⟩ ⟨e, f⟩
   have h4 : atB m M (q.1, q.2) = pixZ m p.1 p.2 := by
    unfold atB
    rw [h2]
   rw [h4] at h3
   exact h3
theorem Ee {k a b x y : Int} (_hk : 1 ≤ k) : posZ [k, 0, a, 0, k, b, 0, 0, 1] x y = some (a + k * x + k / 2, b + k * y + k / 2) := by
 unfold posZ
 have e0 : rwZ [k, 0, a, 0, k, b, 0, 0, 1] 0 (2 * x + 1) (2 * y + 1) = k * (2 * x + 1) + 2 * a := by
  show k * (2 * x + 1) + 0 * (2 * y + 1) + 2 * a = _; omega
 have e1 : rwZ [k, 0, a, 0, k, b, 0, 0, 1] 1 (2 * x + 1) (2 * y + 1) = k * (2 * y + 1) + 2 * b := by
  show 0 * (2 * x + 1) + k * (2 * y + 1) + 2 * b = _; omega
 have e2 : rwZ [k, 0, a, 0, k, b, 0, 0, 1] 2 (2 * x + 1) (2 * y + 1) = 2 := by
  show 0 * (2 * x + 1) + 0 * (2 * y + 1) + 2 * 1 = _; omega
 rw [e0, e1, e2, if_neg (by decide), Int.fdiv_eq_ediv_of_nonneg _ (by decide), Int.fdiv_eq_ediv_of_nonneg _ (by decide)]
 have f1 : k * (2 * x + 1) + 2 * a = k + 2 * (k * x + a) := by grind
 have f2 : k * (2 * y + 1) + 2 * b = k + 2 * (k * y + b) := by grind
 rw [f1, f2, Int.add_mul_ediv_left _ _ (by decide), Int.add_mul_ediv_left _ _ (by decide)]
 congr 2 <;> omega
theorem half_div {k t : Int} (hk : 1 ≤ k) : (2 * t + 1) / (2 * k) = t / k := by
 rw [← Int.ediv_ediv_of_nonneg (by decide)]
 congr 1
 omega
theorem shift_back {k a b x y : Int} (hk : 1 ≤ k) : posZ [1, 0, -a, 0, 1, -b, 0, 0, k] x y = some ((x - a) / k, (y - b) / k) := by
 unfold posZ
 have e0 : rwZ [1, 0, -a, 0, 1, -b, 0, 0, k] 0 (2 * x + 1) (2 * y + 1) = 2 * (x - a) + 1 := by
  show 1 * (2 * x + 1) + 0 * (2 * y + 1) + 2 * (-a) = _; omega
 have e1 : rwZ [1, 0, -a, 0, 1, -b, 0, 0, k] 1 (2 * x + 1) (2 * y + 1) = 2 * (y - b) + 1 := by
  show 0 * (2 * x + 1) + 1 * (2 * y + 1) + 2 * (-b) = _; omega
 have e2 : rwZ [1, 0, -a, 0, 1, -b, 0, 0, k] 2 (2 * x + 1) (2 * y + 1) = 2 * k := by
  show 0 * (2 * x + 1) + 0 * (2 * y + 1) + 2 * k = _; omega
 rw [e0, e1, e2, if_neg (by omega), Int.fdiv_eq_ediv_of_nonneg _ (by omega), Int.fdiv_eq_ediv_of_nonneg _ (by omega), half_div hk, half_div hk]
theorem shift_adj {k a b : Int} : adjZ [k, 0, a, 0, k, b, 0, 0, 1] = [1, 0, -a, 0, 1, -b, 0, 0, k].map (k * ·) := by
 show [_, _, _, _, _, _, _, _, _] = [_, _, _, _, _, _, _, _, _]
 congr 1 <;> grind
theorem turn_back {h x y : Int} : posZ [0, 1, 0, -1, 0, h, 0, 0, 1] x y = some (y, h - 1 - x) := by
 unfold posZ
 have e0 : rwZ [0, 1, 0, -1, 0, h, 0, 0, 1] 0 (2 * x + 1) (2 * y + 1) = 2 * y + 1 := by
  show 0 * (2 * x + 1) + 1 * (2 * y + 1) + 2 * 0 = _; omega
 have e1 : rwZ [0, 1, 0, -1, 0, h, 0, 0, 1] 1 (2 * x + 1) (2 * y + 1) = 2 * (h - 1 - x) + 1 := by
  show -1 * (2 * x + 1) + 0 * (2 * y + 1) + 2 * h = _; omega
 have e2 : rwZ [0, 1, 0, -1, 0, h, 0, 0, 1] 2 (2 * x + 1) (2 * y + 1) = 2 := by
  show 0 * (2 * x + 1) + 0 * (2 * y + 1) + 2 * 1 = _; omega
 rw [e0, e1, e2, if_neg (by decide), Int.fdiv_eq_ediv_of_nonneg _ (by decide), Int.fdiv_eq_ediv_of_nonneg _ (by decide)]
 congr 2 <;> omega
theorem turn_adj {h : Int} : adjZ [0, -1, h, 1, 0, 0, 0, 0, 1] = [0, 1, 0, -1, 0, h, 0, 0, 1] := by
 show [_, _, _, _, _, _, _, _, _] = [_, _, _, _, _, _, _, _, _]
 congr 1 <;> grind
def En (n : Int) : Int := max (-10000) (min 10000 n)
def cropE (m : Bm) (bx by_ w h : Int) : Bm × Int :=
 if bmB m then (if J9 w h then (⟨w, h, (ptsB w h).map fun p => pixZ m (En bx + p.1) (En by_ + p.2)⟩, 0) else (noB, 23)) else (noB, 1)
def enlE (m : Bm) (k : Int) : Bm × Int :=
 if bmB m then (if 1 ≤ k ∧ k ≤ 4096 then (if J9 (k * m.w) (k * m.h) then (⟨k * m.w, k * m.h, (ptsB (k * m.w) (k * m.h)).map fun p => pixZ m (p.1 / k) (p.2 / k)⟩, 0) else (noB, 4)) else (noB, 3)) else (noB, 1)
def D9 (m : Bm) : Bm := ⟨m.h, m.w, (ptsB m.h m.w).map fun p => m.d.getD ((m.h - 1 - p.1) * m.w + p.2).toNat false⟩
theorem scale_pix {m : Bm} {k u v : Int} (hk : 1 ≤ k) : pixZ ⟨k * m.w, k * m.h, (ptsB (k * m.w) (k * m.h)).map fun p => pixZ m (p.1 / k) (p.2 / k)⟩ u v = pixZ m (u / k) (v / k) := by
 have e : inB m.w m.h (u / k) (v / k) = inB (k * m.w) (k * m.h) u v := by
  rw [Bool.eq_iff_iff, Qd, Qd, Int.ediv_nonneg_iff_of_pos (by omega), Int.ediv_nonneg_iff_of_pos (by omega), Int.ediv_lt_iff_lt_mul (by omega), Int.ediv_lt_iff_lt_mul (by omega), Int.mul_comm m.w, Int.mul_comm m.h]
 cases hi : inB (k * m.w) (k * m.h) u v
 ·rw [Ej (m := m) (by rw [e, hi]), Ej (by exact hi)]
 ·obtain ⟨a, b, c, d⟩ := Qd.1 hi
  exact pix_of (fun p => pixZ m (p.1 / k) (p.2 / k)) ⟨a, b⟩ ⟨c, d⟩
theorem Eh {m : Bm} (hm : bmB m = true) {k : Int} (hk : 1 ≤ k ∧ k ≤ 6) (h12 : m.w ≤ 12 ∧ m.h ≤ 12) : J9 (k * m.w) (k * m.h) = true := by
 obtain ⟨⟨a, _, b, _, _⟩, _⟩ := W5.1 hm
 have h1 : k * m.w ≤ 6 * 12 := Int.mul_le_mul hk.2 h12.1 (by omega) (by omega)
 have h2 : k * m.h ≤ 6 * 12 := Int.mul_le_mul hk.2 h12.2 (by omega) (by omega)
 have h3 : 1 * 1 ≤ k * m.w := Int.mul_le_mul hk.1 a (by omega) (by omega)
 have h4 : 1 * 1 ≤ k * m.h := Int.mul_le_mul hk.1 b (by omega) (by omega)
 have h5 : k * m.w * (k * m.h) ≤ 72 * 72 := Int.mul_le_mul (by omega) (by omega) (by omega) (by omega)
 exact Jj.2 ⟨by omega, by omega, by omega, by omega, by omega⟩
theorem big_ok {m : Bm} {k : Int} (hs : J9 (k * m.w) (k * m.h) = true) : bmB ⟨k * m.w, k * m.h, (ptsB (k * m.w) (k * m.h)).map fun p => pixZ m (p.1 / k) (p.2 / k)⟩ = true := by
 obtain ⟨a, b, c, d, e⟩ := Jj.1 hs
 rw [W5]
 refine ⟨⟨a, b, c, d, e⟩, ?_⟩
 have h0 : 0 ≤ k * m.w * (k * m.h) := Int.mul_nonneg (by omega) (by omega)
 rw [List.length_map, Hp]
 exact Int.toNat_of_nonneg h0
theorem scale_warp {m : Bm} (hm : bmB m = true) {k a b w h : Int} (hk : 1 ≤ k ∧ k ≤ 6) (h12 : m.w ≤ 12 ∧ m.h ≤ 12) (ha : -30 ≤ a ∧ a ≤ 30) (hb : -30 ≤ b ∧ b ≤ 30) (hs : J9 w h = true) {M : List Int}
  (hM : ∀ x y, posZ M x y = some ((x - a) / k, (y - b) / k)) : cropE (enlE m k).1 (0 - a) (0 - b) w h = (⟨w, h, smpL m M w h⟩, 0) ∧ (enlE m k).2 = 0 := by
 have hz := Eh hm hk h12
 have e : enlE m k = (⟨k * m.w, k * m.h, (ptsB (k * m.w) (k * m.h)).map fun p => pixZ m (p.1 / k) (p.2 / k)⟩, 0) := by
  unfold enlE
  rw [if_pos hm, if_pos ⟨by omega, by omega⟩, if_pos hz]
 rw [e]
 refine ⟨?_, rfl⟩
 unfold cropE
 rw [if_pos (big_ok hz), if_pos hs]
 congr 2
 unfold smpL
 refine List.map_congr_left fun p _ => ?_
 unfold atB
 rw [hM]
 dsimp only
 rw [scale_pix hk.1]
 have e1 : En (0 - a) + p.1 = p.1 - a := by unfold En; omega
 have e2 : En (0 - b) + p.2 = p.2 - b := by unfold En; omega
 rw [e1, e2]
theorem same_crop {m : Bm} (hm : bmB m = true) {w h : Int} (hs : J9 w h = true) {N : List Int} (hN : ∀ x y, posZ N x y = some (x, y)) : cropE m 0 0 w h = (⟨w, h, smpL m N w h⟩, 0) ∧ allP N w h = true := by
 refine ⟨?_, ?_⟩
 ·unfold cropE
  rw [if_pos hm, if_pos hs]
  congr 2
  unfold smpL
  refine List.map_congr_left fun p _ => ?_
  unfold atB
  rw [hN]
  dsimp only
  congr 1 <;> (unfold En; omega)
 ·unfold allP
  rw [List.all_eq_true]
  intro p _
  rw [hN]
  rfl
theorem scale_faith {W H k a b w h : Int} (hk : 1 ≤ k) (hW : 1 ≤ W) (hH : 1 ≤ H) {N M : List Int} (hN : ∀ x y, posZ N x y = some (a + k * x + k / 2, b + k * y + k / 2)) (hM : ∀ x y, posZ M x y = some ((x - a) / k, (y - b) / k)) :
  (ptsB W H).all (Xt N M w h) = decide (0 ≤ a + k / 2 ∧ 0 ≤ b + k / 2 ∧ a + k * (W - 1) + k / 2 < w ∧ b + k * (H - 1) + k / 2 < h) := by
 have hh : 0 ≤ k / 2 ∧ k / 2 < k := ⟨by omega, by omega⟩
 have hB : ∀ x y : Int, Xt N M w h (x, y) = inB w h (a + k * x + k / 2) (b + k * y + k / 2) := fun x y => by
  unfold Xt
  rw [hN]
  dsimp only
  rw [hM]
  have e1 : (a + k * x + k / 2 - a) / k = x := by
   rw [show a + k * x + k / 2 - a = k / 2 + k * x by omega, Int.add_mul_ediv_left _ _ (by omega), Int.ediv_eq_zero_of_lt hh.1 hh.2, Int.zero_add]
  have e2 : (b + k * y + k / 2 - b) / k = y := by
   rw [show b + k * y + k / 2 - b = k / 2 + k * y by omega, Int.add_mul_ediv_left _ _ (by omega), Int.ediv_eq_zero_of_lt hh.1 hh.2, Int.zero_add]
  rw [e1, e2]
  simp
 rw [Bool.eq_iff_iff, List.all_eq_true, decide_eq_true_iff]
 constructor
 ·intro h0
  have p0 := h0 (0, 0) (Ed ⟨by omega, by omega⟩ ⟨by omega, by omega⟩)
  have p1 := h0 (W - 1, H - 1) (Ed ⟨by omega, by omega⟩ ⟨by omega, by omega⟩)
  rw [hB, Qd] at p0 p1
  simp only [Int.mul_zero, Int.add_zero] at p0
  exact ⟨p0.1, p0.2.2.1, p1.2.1, p1.2.2.2⟩
 ·rintro ⟨a1, a2, a3, a4⟩ ⟨x, y⟩ hp
  obtain ⟨b1, b2, b3, b4⟩ := Ek (by omega) hp
  dsimp only at b1 b2 b3 b4
  rw [hB, Qd]
  have c1 : 0 ≤ k * x := Int.mul_nonneg (by omega) b1
  have c2 : 0 ≤ k * y := Int.mul_nonneg (by omega) b3
  have c3 : k * x ≤ k * (W - 1) := Int.mul_le_mul_of_nonneg_left (by omega) (by omega)
  have c4 : k * y ≤ k * (H - 1) := Int.mul_le_mul_of_nonneg_left (by omega) (by omega)
  exact ⟨by omega, by omega, by omega, by omega⟩
theorem turn_warp {m : Bm} (hm : bmB m = true) {M : List Int} (hM : ∀ x y, posZ M x y = some (y, m.h - 1 - x)) : D9 m = ⟨m.h, m.w, smpL m M m.h m.w⟩ := by
 obtain ⟨⟨a, _, b, _, _⟩, _⟩ := W5.1 hm
 unfold D9 smpL
 congr 1
 refine List.map_congr_left fun p hp => ?_
 obtain ⟨b1, b2, b3, b4⟩ := Ek (by omega) hp
 unfold atB
 rw [hM]
 dsimp only
 unfold pixZ
 rw [Qd.2 ⟨b3, b4, by omega, by omega⟩, Bool.true_and]
end Go.Proofs.YtdkgbkbbbldliaaGreat
