/- Rows of elements: a row that is written in place. Conditions: none. -/
import Derived.Test.YtjfgklhifhaaoaaZTe2
import Derived.Test.YtjfgklhifhaaoaaZTw3
set_option linter.unusedVariables false
set_option linter.unusedSimpArgs false
namespace Go.Proofs.Ytjfgklhifhaaoaa
open Go.RowKit
section
variable {α : Type} {X : Knd α}
/-- block g begins with the elements D, and may be written -/
structure Knd.Rw (X : Knd α) (w : World) (g : Nat) (D : List α) : Prop where
 r : w.rangeAt g 0 (X.flat D)
 z : Zn w g
/-- nothing but block g was changed; it begins with the elements D -/
structure Knd.RwR (X : Knd α) (w : World) (g : Nat) (D : List α) (w' : World) : Prop where
 gb : w.grownBy w' (some g)
 a : X.Rw w' g D
theorem Knd.Rw.below {w w' : World} {g : Nat} {D : List α} (h : X.Rw w g D) (hb : Below w.heap.size w w') : X.Rw w' g D := ⟨rng_below h.r hb, h.z.below hb⟩
theorem Knd.Rw.at_ (ok : X.Ok) {w : World} {g : Nat} {D : List α} (h : X.Rw w g D) {j : Nat} (hj : j < D.length) : X.At w g (j * X.k) D[j] := fun i v hv => by
 have := h.r (j * X.k + i) v (by rw [Knd.flat_get ok D j i hj (Knd.enc_lt ok hv)]; exact hv)
 rwa [Nat.zero_add] at this
theorem Knd.Rw.set (ok : X.Ok) {w : World} {g : Nat} {D : List α} (h : X.Rw w g D) {j : Nat} (hj : j < D.length) (x : α) : X.Rw (w.setCells g (j * X.k) (X.enc x)) g (D.set j x) := by
 have hlen := ok.len x
 have hthere : w.there g (j * X.k) (X.enc x).length := fun i hi => by
  have h0 : i < (X.enc D[j]).length := by rw [ok.len, ← hlen]; exact hi
  have := h.at_ ok hj i _ (List.getElem?_eq_getElem h0)
  exact ⟨by rw [this]; rfl, h.z.fr _⟩
 refine ⟨fun t v hv => ?_, h.z.sets _ _ _ _⟩
 rw [Nat.zero_add]
 have ht : t < D.length * X.k := by
  have := (List.getElem?_eq_some_iff.1 hv).1
  rw [Knd.flat_len ok, List.length_set] at this
  exact this
 have hk := ok.k0
 have hq : t / X.k < D.length := Nat.div_lt_of_lt_mul (by rw [Nat.mul_comm]; exact ht)
 have hm : t % X.k < X.k := Nat.mod_lt _ hk
 have e : t / X.k * X.k + t % X.k = t := by rw [Nat.mul_comm]; exact Nat.div_add_mod t X.k
 have hf := Knd.flat_get ok (D.set j x) (t / X.k) (t % X.k) (by rw [List.length_set]; exact hq) hm
 rw [e, hv, List.getElem_set] at hf
 by_cases hj2 : j = t / X.k
 ·rw [if_pos hj2] at hf
  have := World.rangeAt_setCells_same w g (j * X.k) (X.enc x) hthere (t % X.k) v hf.symm
  rw [hj2, e] at this
  rw [hj2]; exact this
 ·rw [if_neg hj2] at hf
  rw [World.cell?_setCells_out g (X.enc x) (j * X.k) w ⟨g, t, none⟩ (fun _ hr => ?_)]
  ·have := h.r t v (by rw [← e, Knd.flat_get ok D (t / X.k) (t % X.k) hq hm]; exact hf.symm)
   rwa [Nat.zero_add] at this
  ·show t < j * X.k ∨ j * X.k + (X.enc x).length ≤ t
   rw [hlen]
   rcases Nat.lt_or_ge t (j * X.k) with h1 | h1
   ·exact .inl h1
   ·refine .inr ?_
    rcases Nat.lt_or_ge t (j * X.k + X.k) with h2 | h2
    ·exact absurd (Nat.div_eq_of_lt_le h1 (by rw [Nat.add_mul, Nat.one_mul]; exact h2)).symm hj2
    ·exact h2
theorem Knd.RwR.refl {w : World} {g : Nat} {D : List α} (h : X.Rw w g D) : X.RwR w g D w := ⟨World.grownBy.refl _ _, h⟩
theorem size_sets (b : Nat) : ∀ (vs : List Value) (o : Nat) (w : World), (w.setCells b o vs).heap.size = w.heap.size
 | [], _, _ => rfl
 | v :: r, o, w => by rw [World.setCells, size_sets b r]; simp
theorem gb_sets {w : World} {g : Nat} : ∀ (vs : List Value) (o : Nat), w.grownBy (w.setCells g o vs) (some g) := fun vs o => by
 refine ⟨?_, ?_, ?_, ?_, ?_⟩
 all_goals
  induction vs generalizing w o with
  | nil => first | rfl | exact Nat.le_refl _ | exact fun _ _ _ => rfl
  | cons v vs ih =>
   rw [World.setCells]
   first
    | exact (ih (w := w.setCell ⟨g, o, none⟩ v) (o + 1))
    | (refine Nat.le_trans ?_ (ih (w := w.setCell ⟨g, o, none⟩ v) (o + 1)); simp)
    | (intro k hk hne; exact (ih (w := w.setCell ⟨g, o, none⟩ v) (o + 1) k (by simpa using hk) hne).trans (gb_set.block k hk hne))
theorem Knd.RwR.set (ok : X.Ok) {w w' : World} {g : Nat} {D : List α} (h : X.RwR w g D w') {j : Nat} (hj : j < D.length) (x : α) : X.RwR w g (D.set j x) (w'.setCells g (j * X.k) (X.enc x)) := ⟨h.gb.trans (gb_sets _ _), h.a.set ok hj x⟩
theorem Knd.RwR.goes {w w' v : World} {g : Nat} {D : List α} (h : X.RwR w g D w') (hb : Below w'.heap.size w' v) : X.RwR w g D v := ⟨h.gb.trans (gb_below hb), h.a.below hb⟩
theorem Knd.RwR.cast {w w' : World} {g : Nat} {D D' : List α} (h : X.RwR w g D w') (e : D = D') : X.RwR w g D' w' := e ▸ h
theorem Knd.Rw.rd (ok : X.Ok) {w : World} {g c : Nat} {D : List α} (h : X.Rw w g D) (hc : D.length ≤ c) (hm : c ≤ 9223372036854775807) : X.Rd w (some ⟨g, 0, none⟩) c D := Knd.Rd.of_rng ok h.r h.z.lt hc hm
theorem Knd.Own.rw (ok : X.Ok) {w : World} {base : Nat} {v : Value} {l : List α} (h : X.Own w base v l) (h0 : 0 < l.length) : ∃ g c, v = .slice (some ⟨g, 0, none⟩) l.length c ∧ base ≤ g ∧ X.Rw w g l ∧ l.length ≤ c ∧ c ≤ 9223372036854775807 := by
 rcases h.2 with ⟨_, h1⟩ | ⟨g, cap, cur, rfl, hbg, hg, hnc, hmx, hcs, htake⟩
 ·omega
 ·refine ⟨g, cap, rfl, hbg, ⟨fun j u hu => ?_, (Array.getElem?_eq_some_iff.1 hg).1, fun i => ?_⟩, hnc, by unfold maxLen at hmx; omega⟩
  ·have := World.ownsRow.cells h (g := g) rfl j u hu
   rw [add_plain] at this
   rw [Nat.zero_add] at this ⊢
   exact this
  ·simp [World.frozen?, hg]
theorem Knd.Rw.take (ok : X.Ok) {w : World} {g : Nat} {D : List α} (h : X.Rw w g D) (n : Nat) : X.Rw w g (D.take n) := ⟨fun t v hv => h.r t v (by
 rcases List.append_of_mem (a := v) (l := X.flat (D.take n)) (List.mem_of_getElem? hv) with _
 have e : X.flat D = X.flat (D.take n) ++ X.flat (D.drop n) := by rw [← Knd.flat_app, List.take_append_drop]
 rw [e, List.getElem?_append_left (List.getElem?_eq_some_iff.1 hv).1]
 exact hv), h.z⟩
/-- what lies below stays -/
theorem Knd.RwR.keep {w w' : World} {g k o : Nat} {D : List α} {v : Value} (h : X.RwR w g D w') (hk : k ≠ g) (hc : w.cell? ⟨k, o, none⟩ = some v) : w'.cell? ⟨k, o, none⟩ = some v := h.gb.cell hc (fun e => hk (by injection e))
/-- clear of the elements from n on -/
theorem Knd.run_clear (ok : X.Ok) {w : World} {g : Nat} {D : List α} (h : X.Rw w g D) {n : Nat} (hn : n < D.length) (hzv : ∀ w, (zeroValue X.E).run Try.prog w = .ok X.z w) (hzo : ∀ v ∈ X.z.cells.toList, v.oneCell' = true) (ty : TypeId) (c : Nat) :
  ∃ w', (Builtin.clear_ #[X.T] ty #[.slice (some ⟨g, n * X.k, none⟩) (D.length - n) c]).run Try.prog w = .ok (.tuple #[]) w' ∧ X.Rw w' g (D.take n) ∧ w.grownBy w' (some g) ∧ w'.heap.size = w.heap.size := by
 obtain ⟨vs, hvs⟩ : ∃ vs, (Builtin.zeroCells X.z.cells (D.length - n)).toList = vs := ⟨_, rfl⟩
 have hvl : vs.length = (D.length - n) * X.k := by rw [← hvs]; simp [Builtin.zeroCells, ok.hz]
 have hv1 : ∀ v ∈ vs, v.oneCell' = true := fun v hv => by
  rw [← hvs] at hv
  simp only [Builtin.zeroCells, Array.toList_map, List.mem_map, Array.mem_toList_iff, Array.mem_range] at hv
  obtain ⟨i, hi, rfl⟩ := hv
  have hk := ok.k0
  have : i % X.z.cells.size < X.z.cells.size := Nat.mod_lt _ (by rw [ok.hz]; exact hk)
  rw [getElem!_pos X.z.cells (i % X.z.cells.size) this]
  exact hzo _ (by simp)
 have hcell : ∀ j, j < vs.length → w.cell? ⟨g, n * X.k + 0 + j, none⟩ ≠ none ∧ w.frozen? ⟨g, n * X.k + 0 + j, none⟩ = false := fun j hj => by
  refine ⟨?_, h.z.fr _⟩
  have hlt : n * X.k + j < (X.flat D).length := by
   rw [Knd.flat_len ok]
   rw [hvl, Nat.sub_mul] at hj
   have := Nat.mul_le_mul_right X.k (Nat.le_of_lt hn)
   omega
  have := h.r (n * X.k + j) _ (List.getElem?_eq_getElem hlt)
  rw [Nat.zero_add] at this
  rw [Nat.add_zero, this]
  simp
 have hst := run_storeCells_cells (P := Try.prog) g (n * X.k) vs 0 w (fun j hj => by
  have := (hcell j hj).1
  cases hc : w.cell? ⟨g, n * X.k + 0 + j, none⟩ with
  | none => exact absurd hc this
  | some _ => rfl) (fun j hj => (hcell j hj).2) hv1
 simp only [Nat.add_zero] at hst
 obtain ⟨m, hm⟩ : ∃ m, D.length - n = m + 1 := ⟨D.length - n - 1, by omega⟩
 refine ⟨w.setCells g (n * X.k) vs, ?_, ⟨fun t v hv => ?_, h.z.sets _ _ _ _⟩, gb_sets _ _, ?_⟩
 ·rw [hm] at hvs ⊢
  simp [Builtin.clear_, run_underlying ok.ht, hzv, hvs, hst]
 ·have hlt := (List.getElem?_eq_some_iff.1 hv).1
  rw [Knd.flat_len ok, List.length_take] at hlt
  have hmm : min n D.length = n := by omega
  rw [hmm] at hlt
  rw [World.cell?_setCells_out g vs (n * X.k) w ⟨g, 0 + t, none⟩ (fun _ _ => .inl (by show 0 + t < n * X.k; omega))]
  exact (h.take ok n).r t v hv
 ·exact size_sets _ _ _ _
end
end Go.Proofs.Ytjfgklhifhaaoaa
