/- Magnitudes: the walk of step. Conditions: none. -/
import Derived.Test.YtglailcfgcdagaaGreatZBiB
import Derived.Test.YtglailcfgcdagaaGreatZNtA
import Derived.Deep.DeepCutAuto
import Derived.Deep.CutBlock
import Derived.Maps.AppendAt
set_option linter.unusedVariables false
set_option linter.unusedSimpArgs false
namespace Go.Proofs.YtglailcfgcdagaaGreat
open Go.RowKit Big
theorem gd {l : List Nat} {i d : Nat} (h : i < l.length) : l.getD i d = l[i] := by simp [List.getD_eq_getElem?_getD, h]
section
variable {a w w' : World} {g : Nat}
theorem only_drewN {row : Option Nat} (h : a.grownBy w row) (n : Nat) : a.grownBy (w.drewN n) row := ⟨h.os, h.tape, h.output, h.size, h.block⟩
theorem only_drew {row : Option Nat} (h : a.grownBy w row) : a.grownBy w.drew row := ⟨h.os, h.tape, h.output, h.size, h.block⟩
theorem only_alloc {row : Option Nat} (h : a.grownBy w row) (o : Obj) : a.grownBy (w.alloc o) row :=
 ⟨h.os, h.tape, h.output, Nat.le_trans h.size (by simp), fun i hi hne => (Below.heap_alloc w o i (Nat.lt_of_lt_of_le hi h.size)).trans (h.block i hi hne)⟩
theorem only_setCell (h : a.grownBy w (some g)) (k : Nat) (u : Value) : a.grownBy (w.setCell ⟨g, k, none⟩ u) (some g) :=
 ⟨h.os, h.tape, h.output, by simpa [World.setCell] using h.size, fun i hi hne => (Below.heap_setCell w ⟨g, k, none⟩ u i (by rintro rfl; exact hne rfl)).trans (h.block i hi hne)⟩
theorem LB.grown {L : List Nat} {r : Nat} (h : LB a g L) (hb : a.grownBy w (some r)) (hg : g ≠ r) : LB w g L := (hb.block g h.lt (by simpa using hg)).trans h
end
theorem LB.far {w : World} {g k : Nat} {L : List Nat} (h : LB w k L) (hne : k ≠ g) (i : Nat) (u : Value) : LB (w.setCell ⟨g, i, none⟩ u) k L := (Below.heap_setCell w ⟨g, i, none⟩ u k hne).trans h
theorem mid_cell {w : World} {g j n i h : Nat} {Pre low Q : List Nat} (hL : LB w g (Pre ++ low ++ [h] ++ Q)) (hj : Pre.length = j) (hn : low.length = n) (hi : i < n) : w.cell? ⟨g, j + i, none⟩ = some (.int .u32 ((low.getD i 0 : Nat) : Int)) := by
 have hc := hL.cell (j + i) (by simp; omega)
 rw [hc, gd (by omega : i < low.length)]
 congr 3
 apply Option.some.inj; rw [← List.getElem?_eq_getElem, ← List.getElem?_eq_getElem]
 rw [List.append_assoc, List.append_assoc, List.getElem?_append_right (by omega), List.getElem?_append_left (by omega)]; simp [hj]
theorem top_cell {w : World} {g j n h : Nat} {Pre low Q : List Nat} (hL : LB w g (Pre ++ low ++ [h] ++ Q)) (hj : Pre.length = j) (hn : low.length = n) : w.cell? ⟨g, j + n, none⟩ = some (.int .u32 (h : Int)) := by
 have hc := hL.cell (j + n) (by simp; omega)
 rw [hc]
 congr 3
 apply Option.some.inj; rw [← List.getElem?_eq_getElem]
 rw [List.append_assoc, List.getElem?_append_right (by simp; omega)]; simp [hj, hn]
theorem v_cell {w : World} {g n i : Nat} {vs Z : List Nat} (hV : LB w g (vs ++ Z)) (hn : vs.length = n) (hi : i < n) : w.cell? ⟨g, i, none⟩ = some (.int .u32 ((vs.getD i 0 : Nat) : Int)) := by
 have hc := hV.cell i (by simp; omega)
 rw [hc, gd (by omega : i < vs.length)]
 congr 3
 apply Option.some.inj; rw [← List.getElem?_eq_getElem, ← List.getElem?_eq_getElem, List.getElem?_append_left (by omega)]
theorem subm_lo (x p c d : Nat) (hx : x < 4294967296) (hd : d ≤ 1) : IntKind.u64.wrap (IntKind.u64.wrap ((x : Int) - ((p : Int) + c) % 4294967296) - d) % 4294967296 = (((x + 18446744073709551616 - (p + c) % 4294967296 - d) % 4294967296 : Nat) : Int) := by
 simp only [IntKind.wrap_u64]; omega
theorem subm_hi (x p c d : Nat) (hx : x < 4294967296) (hd : d ≤ 1) : IntKind.u64.wrap (IntKind.u64.wrap ((x : Int) - ((p : Int) + c) % 4294967296) - d) / 9223372036854775808 = ((if x < (p + c) % 4294967296 + d then 1 else 0 : Nat) : Int) := by
 simp only [IntKind.wrap_u64]; split <;> omega
theorem subh_lo (h c d : Nat) (hh : h < 4294967296) (hc : c < 4294967296) (hd : d ≤ 1) : IntKind.u64.wrap (IntKind.u64.wrap ((h : Int) - c) - d) % 4294967296 = (((h + 18446744073709551616 - c - d) % 4294967296 : Nat) : Int) := by
 simp only [IntKind.wrap_u64]; omega
theorem subh_hi (h c d : Nat) (hh : h < 4294967296) (hc : c < 4294967296) (hd : d ≤ 1) (hlt : h < c + d) : (IntKind.u64.wrap (IntKind.u64.wrap ((h : Int) - c) - d) / 9223372036854775808 == 0) = false := by
 have : IntKind.u64.wrap (IntKind.u64.wrap ((h : Int) - c) - d) / 9223372036854775808 = 1 := by simp only [IntKind.wrap_u64]; omega
 rw [this]; rfl
def SubMAt (G : Nat) (Pre low Q vs : List Nat) (h i c d : Nat) (L : List Nat) : Prop :=
 ∃ D : List Nat, D.length = i ∧ L = Pre ++ D ++ low.drop i ++ [h] ++ Q ∧ subM G vs low 0 0 = (D ++ (subM G (vs.drop i) (low.drop i) c d).1, (subM G (vs.drop i) (low.drop i) c d).2)
theorem SubMAt.start (G : Nat) (Pre low Q vs : List Nat) (h : Nat) : SubMAt G Pre low Q vs h 0 0 0 (Pre ++ low ++ [h] ++ Q) := ⟨[], rfl, by simp, by simp⟩
theorem SubMAt.cell {G : Nat} {Pre low Q vs L : List Nat} {h i c d j n g : Nat} {w : World} (hm : SubMAt G Pre low Q vs h i c d L) (hL : LB w g L) (hj : Pre.length = j) (hn : low.length = n) (hi : i < n) : w.cell? ⟨g, j + i, none⟩ = some (.int .u32 ((low.getD i 0 : Nat) : Int)) := by
 obtain ⟨D, h1, h2, _⟩ := hm
 subst h2
 have hL' : LB w g ((Pre ++ D) ++ low.drop i ++ [h] ++ Q) := hL
 have := mid_cell (j := j + i) (i := 0) (n := n - i) hL' (by simp [hj, h1]) (by simp; omega) (by omega)
 rw [Nat.add_zero] at this
 rw [this]
 simp [List.getD_eq_getElem?_getD]
theorem SubMAt.top {G : Nat} {Pre low Q vs L : List Nat} {h i c d j n g : Nat} {w : World} (hm : SubMAt G Pre low Q vs h i c d L) (hL : LB w g L) (hj : Pre.length = j) (hn : low.length = n) (hi : i ≤ n) : w.cell? ⟨g, j + n, none⟩ = some (.int .u32 (h : Int)) := by
 obtain ⟨D, h1, h2, _⟩ := hm
 subst h2
 have hL' : LB w g (Pre ++ (D ++ low.drop i) ++ [h] ++ Q) := by simpa using hL
 exact top_cell hL' hj (by simp; omega)
theorem SubMAt.step {G : Nat} {Pre low Q vs L : List Nat} {h i c d j n : Nat} (hm : SubMAt G Pre low Q vs h i c d L) (hj : Pre.length = j) (hn : low.length = n) (hv : vs.length = n) (hi : i < n) :
  SubMAt G Pre low Q vs h (i + 1) ((G * vs.getD i 0 + c) / 4294967296) (if low.getD i 0 < (G * vs.getD i 0 + c) % 4294967296 + d then 1 else 0)
   (L.set (j + i) ((low.getD i 0 + 18446744073709551616 - (G * vs.getD i 0 + c) % 4294967296 - d) % 4294967296)) := by
 obtain ⟨D, h1, h2, h3⟩ := hm
 have hl : i < low.length := by omega
 have hl2 : i < vs.length := by omega
 rw [gd hl, gd hl2]
 rw [List.drop_eq_getElem_cons hl, List.drop_eq_getElem_cons hl2, subM] at h3
 refine ⟨D ++ [(low[i] + 18446744073709551616 - (G * vs[i] + c) % 4294967296 - d) % 4294967296], by simp [h1], ?_, ?_⟩
 ·rw [h2, List.drop_eq_getElem_cons hl, List.append_assoc, List.append_assoc, List.append_assoc, List.set_append_right _ _ (by omega), List.set_append_right _ _ (by omega), hj, h1, show j + i - j - i = 0 by omega, List.cons_append, List.set_cons_zero]
  simp
 ·rw [h3]; simp
theorem SubMAt.last {G : Nat} {Pre low Q vs L : List Nat} {h c d n : Nat} (hm : SubMAt G Pre low Q vs h n c d L) (hn : low.length = n) (hv : vs.length = n) : L = Pre ++ (subM G vs low 0 0).1 ++ [h] ++ Q ∧ (subM G vs low 0 0).2 = (c, d) := by
 obtain ⟨D, h1, h2, h3⟩ := hm
 rw [List.drop_of_length_le (by omega), List.drop_of_length_le (by omega), subM] at h3
 rw [List.drop_of_length_le (by omega)] at h2
 rw [h3, h2]; simp
def AddBAt (Pre M Q vs : List Nat) (h i e : Nat) (L : List Nat) : Prop :=
 ∃ D : List Nat, D.length = i ∧ L = Pre ++ D ++ M.drop i ++ [h] ++ Q ∧ addB vs M 0 = (D ++ (addB (vs.drop i) (M.drop i) e).1, (addB (vs.drop i) (M.drop i) e).2)
theorem AddBAt.start (Pre M Q vs : List Nat) (h : Nat) : AddBAt Pre M Q vs h 0 0 (Pre ++ M ++ [h] ++ Q) := ⟨[], rfl, by simp, by simp⟩
theorem AddBAt.cell {Pre low Q vs L : List Nat} {h i e j n g : Nat} {w : World} (hm : AddBAt Pre low Q vs h i e L) (hL : LB w g L) (hj : Pre.length = j) (hn : low.length = n) (hi : i < n) : w.cell? ⟨g, j + i, none⟩ = some (.int .u32 ((low.getD i 0 : Nat) : Int)) := by
 obtain ⟨D, h1, h2, _⟩ := hm
 subst h2
 have hL' : LB w g ((Pre ++ D) ++ low.drop i ++ [h] ++ Q) := hL
 have := mid_cell (j := j + i) (i := 0) (n := n - i) hL' (by simp [hj, h1]) (by simp; omega) (by omega)
 rw [Nat.add_zero] at this
 rw [this]
 simp [List.getD_eq_getElem?_getD]
theorem AddBAt.top {Pre low Q vs L : List Nat} {h i e j n g : Nat} {w : World} (hm : AddBAt Pre low Q vs h i e L) (hL : LB w g L) (hj : Pre.length = j) (hn : low.length = n) (hi : i ≤ n) : w.cell? ⟨g, j + n, none⟩ = some (.int .u32 (h : Int)) := by
 obtain ⟨D, h1, h2, _⟩ := hm
 subst h2
 have hL' : LB w g (Pre ++ (D ++ low.drop i) ++ [h] ++ Q) := by simpa using hL
 exact top_cell hL' hj (by simp; omega)
theorem AddBAt.step {Pre low Q vs L : List Nat} {h i e j n : Nat} (hm : AddBAt Pre low Q vs h i e L) (hj : Pre.length = j) (hn : low.length = n) (hv : vs.length = n) (hi : i < n) :
  AddBAt Pre low Q vs h (i + 1) ((low.getD i 0 + vs.getD i 0 + e) / 4294967296) (L.set (j + i) ((low.getD i 0 + vs.getD i 0 + e) % 4294967296)) := by
 obtain ⟨D, h1, h2, h3⟩ := hm
 have hl : i < low.length := by omega
 have hl2 : i < vs.length := by omega
 rw [gd hl, gd hl2]
 rw [List.drop_eq_getElem_cons hl, List.drop_eq_getElem_cons hl2, addB] at h3
 refine ⟨D ++ [(low[i] + vs[i] + e) % 4294967296], by simp [h1], ?_, ?_⟩
 ·rw [h2, List.drop_eq_getElem_cons hl, List.append_assoc, List.append_assoc, List.append_assoc, List.set_append_right _ _ (by omega), List.set_append_right _ _ (by omega), hj, h1, show j + i - j - i = 0 by omega, List.cons_append, List.set_cons_zero]
  simp
 ·rw [h3]; simp
theorem AddBAt.last {Pre low Q vs L : List Nat} {h e n : Nat} (hm : AddBAt Pre low Q vs h n e L) (hn : low.length = n) (hv : vs.length = n) : L = Pre ++ (addB vs low 0).1 ++ [h] ++ Q ∧ (addB vs low 0).2 = e := by
 obtain ⟨D, h1, h2, h3⟩ := hm
 rw [List.drop_of_length_le (by omega), List.drop_of_length_le (by omega), addB] at h3
 rw [List.drop_of_length_le (by omega)] at h2
 rw [h3, h2]; simp
theorem set_top {Pre M Q : List Nat} {h j n : Nat} (hj : Pre.length = j) (hn : M.length = n) (t : Nat) : (Pre ++ M ++ [h] ++ Q).set (j + n) t = Pre ++ M ++ [t] ++ Q := by
 rw [List.append_assoc, List.append_assoc, List.set_append_right _ _ (by omega), List.set_append_right _ _ (by omega), hj, hn, show j + n - j - n = 0 by omega]
 simp
/-- the first loop of step: head -/
structure Gs (U V top u2 v1 v2 P G R : Nat) : Prop where
 S : Shape U V top u2 v1 v2 P
 eq : G * v1 + R = top
 hi : U / V ≤ G
 tb : top < (v1 + 1) * 4294967296
theorem Gs.down {U V top u2 v1 v2 P G R : Nat} (h : Gs U V top u2 v1 v2 P G R) (hV : 0 < V) (hQ : U / V < 4294967296) (hG : 4294967296 ≤ G ∨ R * 4294967296 + u2 < G * v2) : 0 < G ∧ Gs U V top u2 v1 v2 P (G - 1) (R + v1) := by
 have h0 : 0 < G := by
  rcases hG with h | h
  ·omega
  ·rcases Nat.eq_zero_or_pos G with h0 | h0
   ·subst h0; omega
   ·exact h0
 have h1 : U / V < G := by
  rcases hG with h | h2
  ·omega
  ·have := guess_high h.S h.eq h2
   rw [Nat.div_lt_iff_lt_mul hV]; exact this
 refine ⟨h0, h.S, ?_, by omega, h.tb⟩
 obtain ⟨k, rfl⟩ : ∃ k, G = k + 1 := ⟨G - 1, by omega⟩
 have := h.eq
 rw [Nat.add_mul] at this
 simp only [Nat.add_sub_cancel]; omega
theorem Gs.small {U V top u2 v1 v2 P G R : Nat} (h : Gs U V top u2 v1 v2 P G R) (hv1 : 2147483648 ≤ v1) (hR : 4294967296 ≤ R) : G < 4294967296 := by
 rcases Nat.lt_or_ge G 4294967296 with h1 | h1
 ·exact h1
 ·have h2 := Nat.mul_le_mul_right v1 h1
  have h3 := h.tb
  have h4 := h.eq
  rw [Nat.add_mul, Nat.mul_comm v1] at h3
  omega
theorem Gs.le {U V top u2 v1 v2 P G R : Nat} (h : Gs U V top u2 v1 v2 P G R) (hv1 : 2147483648 ≤ v1) : G ≤ 4294967297 := by
 rcases Nat.lt_or_ge G 4294967298 with h1 | h1
 ·omega
 ·have h2 := Nat.mul_le_mul_right v1 h1
  have h3 := h.tb
  have h4 := h.eq
  rw [Nat.add_mul, Nat.mul_comm v1] at h3
  omega
end Go.Proofs.YtglailcfgcdagaaGreat
