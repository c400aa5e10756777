/- Magnitudes: the walk of step. Conditions: none. -/
import Derived.Test.YtfdmlfpldgobjaaGreatDoorZBiB
import Derived.Test.YtfdmlfpldgobjaaGreatDoorZNtA
import Derived.Deep.DeepCutAuto
import Derived.Deep.CutBlock
import Derived.Maps.AppendAt
set_option linter.unusedVariables false
set_option linter.unusedSimpArgs false
namespace Go.Proofs.YtfdmlfpldgobjaaGreatDoor
open Go.RowKit Big
theorem gd {l : List Nat} {i d : Nat} (h : i < l.length) : l.getD i d = l[i] := by simp [List.getD_eq_getElem?_getD, h]
section
variable {a w w' : World} {g : Nat}
theorem only_drewN {row : Option Nat} (h : a.grownBy w row) (n : Nat) : a.grownBy (w.drewN n) row := ⟨h.os, h.tape, h.output, h.size, h.block⟩
theorem only_drew {row : Option Nat} (h : a.grownBy w row) : a.grownBy w.drew row := ⟨h.os, h.tape, h.output, h.size, h.block⟩
theorem only_alloc {row : Option Nat} (h : a.grownBy w row) (o : Obj) : a.grownBy (w.alloc o) row :=
 ⟨h.os, h.tape, h.output, Nat.le_trans h.size (by simp), fun i hi hne => (Below.heap_alloc w o i (Nat.lt_of_lt_of_le hi h.size)).trans (h.block i hi hne)⟩
theorem only_setCell (h : a.grownBy w (some g)) (k : Nat) (u : Value) : a.grownBy (w.setCell ⟨g, k, none⟩ u) (some g) :=
 ⟨h.os, h.tape, h.output, by simpa [World.setCell] using h.size, fun i hi hne => (Below.heap_setCell w ⟨g, k, none⟩ u i (by rintro rfl; exact hne rfl)).trans (h.block i hi hne)⟩
theorem LB.grown {L : List Nat} {r : Nat} (h : LB a g L) (hb : a.grownBy w (some r)) (hg : g ≠ r) : LB w g L := (hb.block g h.lt (by simpa using hg)).trans h
end
theorem LB.far {w : World} {g k : Nat} {L : List Nat} (h : LB w k L) (hne : k ≠ g) (i : Nat) (u : Value) : LB (w.setCell ⟨g, i, none⟩ u) k L := (Below.heap_setCell w ⟨g, i, none⟩ u k hne).trans h
theorem mid_cell {w : World} {g j n i h : Nat} {Pre low Q : List Nat} (hL : LB w g (Pre ++ low ++ [h] ++ Q)) (hj : Pre.length = j) (hn : low.length = n) (hi : i < n) : w.cell? ⟨g, j + i, none⟩ = some (.int .u32 ((low.getD i 0 : Nat) : Int)) := by
 have hc := hL.cell (j + i) (by simp; omega)
 rw [hc, gd (by omega : i < low.length)]
 congr 3
 apply Option.some.inj; rw [← List.getElem?_eq_getElem, ← List.getElem?_eq_getElem]
 rw [List.append_assoc, List.append_assoc, List.getElem?_append_right (by omega), List.getElem?_append_left (by omega)]; simp [hj]
theorem top_cell {w : World} {g j n h : Nat} {Pre low Q : List Nat} (hL : LB w g (Pre ++ low ++ [h] ++ Q)) (hj : Pre.length = j) (hn : low.length = n) : w.cell? ⟨g, j + n, none⟩ = some (.int .u32 (h : Int)) := by
 have hc := hL.cell (j + n) (by simp; omega)
 rw [hc]
 congr 3
 apply Option.some.inj; rw [← List.getElem?_eq_getElem]
 rw [List.append_assoc, List.getElem?_append_right (by simp; omega)]; simp [hj, hn]
theorem v_cell {w : World} {g n i : Nat} {vs Z : List Nat} (hV : LB w g (vs ++ Z)) (hn : vs.length = n) (hi : i < n) : w.cell? ⟨g, i, none⟩ = some (.int .u32 ((vs.getD i 0 : Nat) : Int)) := by
 have hc := hV.cell i (by simp; omega)
 rw [hc, gd (by omega : i < vs.length)]
 congr 3
 apply Option.some.inj; rw [← List.getElem?_eq_getElem, ← List.getElem?_eq_getElem, List.getElem?_append_left (by omega)]
theorem subm_lo (x p c d : Nat) (hx : x < 4294967296) (hd : d ≤ 1) : IntKind.u64.wrap (IntKind.u64.wrap ((x : Int) - ((p : Int) + c) % 4294967296) - d) % 4294967296 = (((x + 18446744073709551616 - (p + c) % 4294967296 - d) % 4294967296 : Nat) : Int) := by
 simp only [IntKind.wrap_u64]; omega
theorem subm_hi (x p c d : Nat) (hx : x < 4294967296) (hd : d ≤ 1) : IntKind.u64.wrap (IntKind.u64.wrap ((x : Int) - ((p : Int) + c) % 4294967296) - d) / 9223372036854775808 = ((if x < (p + c) % 4294967296 + d then 1 else 0 : Nat) : Int) := by
 simp only [IntKind.wrap_u64]; split <;> omega
theorem subh_lo (h c d : Nat) (hh : h < 4294967296) (hc : c < 4294967296) (hd : d ≤ 1) : IntKind.u64.wrap (IntKind.u64.wrap ((h : Int) - c) - d) % 4294967296 = (((h + 18446744073709551616 - c - d) % 4294967296 : Nat) : Int) := by
 simp only [IntKind.wrap_u64]; omega
theorem subh_hi (h c d : Nat) (hh : h < 4294967296) (hc : c < 4294967296) (hd : d ≤ 1) (hlt : h < c + d) : (IntKind.u64.wrap (IntKind.u64.wrap ((h : Int) - c) - d) / 9223372036854775808 == 0) = false := by
 have : IntKind.u64.wrap (IntKind.u64.wrap ((h : Int) - c) - d) / 9223372036854775808 = 1 := by simp only [IntKind.wrap_u64]; omega
 rw [this]; rfl
def SubMAt (G : Nat) (Pre low Q vs : List Nat) (h i c d : Nat) (L : List Nat) : Prop :=
 ∃ D : List Nat, D.length = i ∧ L = Pre ++ D ++ low.drop i ++ [h] ++ Q ∧ subM G vs low 0 0 = (D ++ (subM G (vs.drop i) (low.drop i) c d).1, (subM G (vs.drop i) (low.drop i) c d).2)
theorem SubMAt.start (G : Nat) (Pre low Q vs : List Nat) (h : Nat) : SubMAt G Pre low Q vs h 0 0 0 (Pre ++ low ++ [h] ++ Q) := ⟨[], rfl, by simp, by simp⟩
theorem SubMAt.cell {G : Nat} {Pre low Q vs L : List Nat} {h i c d j n g : Nat} {w : World} (hm : SubMAt G Pre low Q vs h i c d L) (hL : LB w g L) (hj : Pre.length = j) (hn : low.length = n) (hi : i < n) : w.cell? ⟨g, j + i, none⟩ = some (.int .u32 ((low.getD i 0 : Nat) : Int)) := by
 obtain ⟨D, h1, h2, _⟩ := hm
 subst h2
 have hL' : LB w g ((Pre ++ D) ++ low.drop i ++ [h] ++ Q) := hL
 have := mid_cell (j := j + i) (i := 0) (n := n - i) hL' (by simp [hj, h1]) (by simp; omega) (by omega)
 rw [Nat.add_zero] at this
 rw [this]
 simp [List.getD_eq_getElem?_getD]
theorem SubMAt.top {G : Nat} {Pre low Q vs L : List Nat} {h i c d j n g : Nat} {w : World} (hm : SubMAt G Pre low Q vs h i c d L) (hL : LB w g L) (hj : Pre.length = j) (hn : low.length = n) (hi : i ≤ n) : w.cell? ⟨g, j + n, none⟩ = some (.int .u32 (h : Int)) := by
 obtain ⟨D, h1, h2, _⟩ := hm
 subst h2
 have hL' : LB w g (Pre ++ (D ++ low.drop i) ++ [h] ++ Q) := by simpa using hL
 exact top_cell hL' hj (by simp; omega)
theorem SubMAt.step {G : Nat} {Pre low Q vs L : List Nat} {h i c d j n : Nat} (hm : SubMAt G Pre low Q vs h i c d L) (hj : Pre.length = j) (hn : low.length = n) (hv : vs.length = n) (hi : i < n) :
  SubMAt G Pre low Q vs h (i + 1) ((G * vs.getD i 0 + c) / 4294967296) (if low.getD i 0 < (G * vs.getD i 0 + c) % 4294967296 + d then 1 else 0)
   (L.set (j + i) ((low.getD i 0 + 18446744073709551616 - (G * vs.getD i 0 + c) % 4294967296 - d) % 4294967296)) := by
 obtain ⟨D, h1, h2, h3⟩ := hm
 have hl : i < low.length := by omega
 have hl2 : i < vs.length := by omega
 rw [gd hl, gd hl2]
 rw [List.drop_eq_getElem_cons hl, List.drop_eq_getElem_cons hl2, subM] at h3
 refine ⟨D ++ [(low[i] + 18446744073709551616 - (G * vs[i] + c) % 4294967296 - d) % 4294967296], by simp [h1], ?_, ?_⟩
 ·rw [h2, List.drop_eq_getElem_cons hl, List.append_assoc, List.append_assoc, List.append_assoc, List.set_append_right _ _ (by omega), List.set_append_right _ _ (by omega), hj, h1, show j + i - j - i = 0 by omega, List.cons_append, List.set_cons_zero]
  simp
 ·rw [h3]; simp
theorem SubMAt.last {G : Nat} {Pre low Q vs L : List Nat} {h c d n : Nat} (hm : SubMAt G Pre low Q vs h n c d L) (hn : low.length = n) (hv : vs.length = n) : L = Pre ++ (subM G vs low 0 0).1 ++ [h] ++ Q ∧ (subM G vs low 0 0).2 = (c, d) := by
 obtain ⟨D, h1, h2, h3⟩ := hm
 rw [List.drop_of_length_le (by omega), List.drop_of_length_le (by omega), subM] at h3
 rw [List.drop_of_length_le (by omega)] at h2
 rw [h3, h2]; simp
def AddBAt (Pre M Q vs : List Nat) (h i e : Nat) (L : List Nat) : Prop :=
 ∃ D : List Nat, D.length = i ∧ L = Pre ++ D ++ M.drop i ++ [h] ++ Q ∧ addB vs M 0 = (D ++ (addB (vs.drop i) (M.drop i) e).1, (addB (vs.drop i) (M.drop i) e).2)
theorem AddBAt.start (Pre M Q vs : List Nat) (h : Nat) : AddBAt Pre M Q vs h 0 0 (Pre ++ M ++ [h] ++ Q) := ⟨[], rfl, by simp, by simp⟩
theorem AddBAt.cell {Pre low Q vs L : List Nat} {h i e j n g : Nat} {w : World} (hm : AddBAt Pre low Q vs h i e L) (hL : LB w g L) (hj : Pre.length = j) (hn : low.length = n) (hi : i < n) : w.cell? ⟨g, j + i, none⟩ = some (.int .u32 ((low.getD i 0 : Nat) : Int)) := by
 obtain ⟨D, h1, h2, _⟩ := hm
 subst h2
 have hL' : LB w g ((Pre ++ D) ++ low.drop i ++ [h] ++ Q) := hL
 have := mid_cell (j := j + i) (i := 0) (n := n - i) hL' (by simp [hj, h1]) (by simp; omega) (by omega)
 rw [Nat.add_zero] at this
 rw [this]
 simp [List.getD_eq_getElem?_getD]
theorem AddBAt.top {Pre low Q vs L : List Nat} {h i e j n g : Nat} {w : World} (hm : AddBAt Pre low Q vs h i e L) (hL : LB w g L) (hj : Pre.length = j) (hn : low.length = n) (hi : i ≤ n) : w.cell? ⟨g, j + n, none⟩ = some (.int .u32 (h : Int)) := by
 obtain ⟨D, h1, h2, _⟩ := hm
 subst h2
 have hL' : LB w g (Pre ++ (D ++ low.drop i) ++ [h] ++ Q) := by simpa using hL
 exact top_cell hL' hj (by simp; omega)
theorem AddBAt.step {Pre low Q vs L : List Nat} {h i e j n : Nat} (hm : AddBAt Pre low Q vs h i e L) (hj : Pre.length = j) (hn : low.length = n) (hv : vs.length = n) (hi : i < n) :
  AddBAt Pre low Q vs h (i + 1) ((low.getD i 0 + vs.getD i 0 + e) / 4294967296) (L.set (j + i) ((low.getD i 0 + vs.getD i 0 + e) % 4294967296)) := by
 obtain ⟨D, h1, h2, h3⟩ := hm
 have hl : i < low.length := by omega
 have hl2 : i < vs.length := by omega
 rw [gd hl, gd hl2]
 rw [List.drop_eq_getElem_cons hl, List.drop_eq_getElem_cons hl2, addB] at h3
 refine ⟨D ++ [(low[i] + vs[i] + e) % 4294967296], by simp [h1], ?_, ?_⟩
 ·rw [h2, List.drop_eq_getElem_cons hl, List.append_assoc, List.append_assoc, List.append_assoc, List.set_append_right _ _ (by omega), List.set_append_right _ _ (by omega), hj, h1, show j + i - j - i = 0 by omega, List.cons_append, List.set_cons_zero]
  simp
 ·rw [h3]; simp
theorem AddBAt.last {Pre low Q vs L : List Nat} {h e n : Nat} (hm : AddBAt Pre low Q vs h n e L) (hn : low.length = n) (hv : vs.length = n) : L = Pre ++ (addB vs low 0).1 ++ [h] ++ Q ∧ (addB vs low 0).2 = e := by
 obtain ⟨D, h1, h2, h3⟩ := hm
 rw [List.drop_of_length_le (by omega), List.drop_of_length_le (by omega), addB] at h3
 rw [List.drop_of_length_le (by omega)] at h2
 rw [h3, h2]; simp
theorem set_top {Pre M Q : List Nat} {h j n : Nat} (hj : Pre.length = j) (hn : M.length = n) (t : Nat) : (Pre ++ M ++ [h] ++ Q).set (j + n) t = Pre ++ M ++ [t] ++ Q := by
 rw [List.append_assoc, List.append_assoc, List.set_append_right _ _ (by omega), List.set_append_right _ _ (by omega), hj, hn, show j + n - j - n = 0 by omega]
 simp
/-- the first loop of step: head -/
structure Gs (U V top u2 v1 v2 P G R : Nat) : Prop where
 S : Shape U V top u2 v1 v2 P
 eq : G * v1 + R = top
 hi : U / V ≤ G
 tb : top < (v1 + 1) * 4294967296
theorem Gs.down {U V top u2 v1 v2 P G R : Nat} (h : Gs U V top u2 v1 v2 P G R) (hV : 0 < V) (hQ : U / V < 4294967296) (hG : 4294967296 ≤ G ∨ R * 4294967296 + u2 < G * v2) : 0 < G ∧ Gs U V top u2 v1 v2 P (G - 1) (R + v1) := by
 have h0 : 0 < G := by
  rcases hG with h | h
  ·omega
  ·rcases Nat.eq_zero_or_pos G with h0 | h0
   ·subst h0; omega
   ·exact h0
 have h1 : U / V < G := by
  rcases hG with h | h2
  ·omega
  ·have := guess_high h.S h.eq h2
   rw [Nat.div_lt_iff_lt_mul hV]; exact this
 refine ⟨h0, h.S, ?_, by omega, h.tb⟩
 obtain ⟨k, rfl⟩ : ∃ k, G = k + 1 := ⟨G - 1, by omega⟩
 have := h.eq
 rw [Nat.add_mul] at this
 simp only [Nat.add_sub_cancel]; omega
theorem Gs.small {U V top u2 v1 v2 P G R : Nat} (h : Gs U V top u2 v1 v2 P G R) (hv1 : 2147483648 ≤ v1) (hR : 4294967296 ≤ R) : G < 4294967296 := by
 rcases Nat.lt_or_ge G 4294967296 with h1 | h1
 ·exact h1
 ·have h2 := Nat.mul_le_mul_right v1 h1
  have h3 := h.tb
  have h4 := h.eq
  rw [Nat.add_mul, Nat.mul_comm v1] at h3
  omega
theorem Gs.le {U V top u2 v1 v2 P G R : Nat} (h : Gs U V top u2 v1 v2 P G R) (hv1 : 2147483648 ≤ v1) : G ≤ 4294967297 := by
 rcases Nat.lt_or_ge G 4294967298 with h1 | h1
 ·omega
 ·have h2 := Nat.mul_le_mul_right v1 h1
  have h3 := h.tb
  have h4 := h.eq
  rw [Nat.add_mul, Nat.mul_comm v1] at h3
  omega
set_option maxRecDepth 100000 in
set_option maxHeartbeats 4000000 in
theorem step_any (g j hv n cu cv h : Nat) (Pre low Q vs Z : List Nat) (w : World) (hL : LB w g (Pre ++ low ++ [h] ++ Q)) (hV : LB w hv (vs ++ Z)) (hne : hv ≠ g) (hj : Pre.length = j) (hn : low.length = n) (hvn : vs.length = n) (h2 : 2 ≤ n)
  (okl : Ok low) (okv : Ok vs) (okh : h < 4294967296) (htop : 2147483648 ≤ vs.getD (n - 1) 0) (hU : val (low ++ [h]) < val vs * 4294967296) (hs : n ≤ 1073741824) (hjs : j ≤ 1073741824) :
  Calls Tryz.prog 99 #[.slice (some ⟨g, j, none⟩) (n + 1) cu, .slice (some ⟨hv, 0, none⟩) n cv] w fun e w' =>
   ∃ rem : List Nat, e = .returned (.int .u32 ((val (low ++ [h]) / val vs : Nat) : Int)) ∧ LB w' g (Pre ++ rem ++ [0] ++ Q) ∧ w.grownBy w' (some g) ∧ val rem = val (low ++ [h]) % val vs ∧ rem.length = n ∧ Ok rem := by
 have hS := shape_of (h := h) hn hvn h2 okl okv
 have o1 : low.getD (n - 1) 0 < 4294967296 := by rw [gd (by omega)]; exact okl.get (by omega)
 have o2 : low.getD (n - 2) 0 < 4294967296 := by rw [gd (by omega)]; exact okl.get (by omega)
 have o3 : vs.getD (n - 1) 0 < 4294967296 := by rw [gd (by omega)]; exact okv.get (by omega)
 have o4 : vs.getD (n - 2) 0 < 4294967296 := by rw [gd (by omega)]; exact okv.get (by omega)
 have cU0 := top_cell hL hj hn
 have cU1 := mid_cell hL hj hn (show n - 1 < n by omega)
 have cV1 := v_cell hV hvn (show n - 1 < n by omega)
 generalize hu1 : low.getD (n - 1) 0 = u1 at *
 generalize hu2 : low.getD (n - 2) 0 = u2 at *
 generalize hv1 : vs.getD (n - 1) 0 = v1 at *
 generalize hv2 : vs.getD (n - 2) 0 = v2 at *
 have hV0 : 0 < val vs := by
  rcases Nat.eq_zero_or_pos (val vs) with h | h
  ·rw [h] at hU; omega
  ·exact h
 have hQ := quot_lt hU
 have tb := guess_first hS hU o4
 have hq := guess_start hS o2 (val (low ++ [h]) / val vs) (by omega) (Nat.div_mul_le_self _ _)
 have hor1 := or32 h u1 okh o1
 have htd := cast_div h u1 v1
 have htm := cast_mod h u1 v1
 have hrl := Nat.mod_lt (h * 4294967296 + u1) (show 0 < v1 by omega)
 have hGs : Gs (val (low ++ [h])) (val vs) (h * 4294967296 + u1) u2 v1 v2 (4294967296 ^ (n - 2)) ((h * 4294967296 + u1) / v1) ((h * 4294967296 + u1) % v1) := ⟨hS, by rw [Nat.mul_comm]; exact Nat.div_add_mod _ _, hq, tb⟩
 have hG0 := hGs.le htop
 generalize (h * 4294967296 + u1) / v1 = G0 at *
 generalize (h * 4294967296 + u1) % v1 = R0 at *
 have HG := hid hGs
 have HQ := hid hQ
 have HJ := hid (And.intro hj (And.intro hn hvn))
 have HU := hid (And.intro hu1 (And.intro hu2 (And.intro hv1 hv2)))
 have HX := hid hU
 clear hu1 hu2 hv1 hv2 hGs hQ hj hn hvn hU hS hq tb
 have hnl : 2 ≤ n := h2
 go_enter Tryz.func99, Tryz.ntmps99
 go_wp2
 go_quiet (fail)
 go_wp2
 go_quiet (fail)
 go_upto_block 0 with fail
 go_cut [7] (fun s7 wx => ∃ G : Nat, s7 = .int .u64 G ∧ G < 4294967296 ∧ LB wx g (Pre ++ low ++ [h] ++ Q) ∧ LB wx hv (vs ++ Z) ∧ w.grownBy wx (some g) ∧ Hid (G = val (low ++ [h]) / val vs ∨ G = val (low ++ [h]) / val vs + 1))
 case first =>
  go_wp2_with fail
  go_loopw [7, 8] (fun s7 s8 wr => ∃ G R : Nat, s7 = .int .u64 G ∧ s8 = .int .u64 R ∧ G ≤ 4294967297 ∧ R < 4294967296 ∧ LB wr g (Pre ++ low ++ [h] ++ Q) ∧ LB wr hv (vs ++ Z) ∧ w.grownBy wr (some g) ∧ Hid (Gs (val (low ++ [h])) (val vs) (h * 4294967296 + u1) u2 v1 v2 (4294967296 ^ (n - 2)) G R)) (fun s7 _ _ => (intOf s7).toNat)
  case atStart => exact ⟨G0, R0, val_i htd, val_i htm, hG0, by omega, (by repeat (first | assumption | refine LB.drew ?_ | refine LB.drewN ?_ _ | refine LB.alloc ?_ _ | refine LB.far ?_ hne _ _)), (by repeat (first | assumption | refine LB.drew ?_ | refine LB.drewN ?_ _ | refine LB.alloc ?_ _ | refine LB.far ?_ hne _ _)), (by repeat (first | exact hgr | exact World.grownBy.refl _ _ | refine only_drew ?_ | refine only_drewN ?_ _ | refine only_setCell ?_ _ _ | refine only_alloc ?_ _)), HG⟩
  case round =>
   obtain ⟨G, R, rfl, rfl, hGb, hRb, hL, hV, hgr, hgs⟩ := hrel
   have cU2 := mid_cell hL HJ.out.1 HJ.out.2.1 (show n - 2 < n by omega)
   have cV1 := v_cell hV HJ.out.2.2 (show n - 1 < n by omega)
   have cV2 := v_cell hV HJ.out.2.2 (show n - 2 < n by omega)
   rw [HU.out.2.1] at cU2
   rw [HU.out.2.2.1] at cV1
   rw [HU.out.2.2.2] at cV2
   have hor2 := or32 R u2 hRb o2
   by_cases hGB : 4294967296 ≤ G
   ·have t1 : ((G : Int) / 4294967296 != 0) = true := by simp; omega
    obtain ⟨g0, gd⟩ := hgs.out.down hV0 HQ.out (.inl hGB)
    have GD := hid gd
    clear gd
    by_cases hbr : 4294967296 ≤ R + v1
    ·have t3 : (((R : Int) + (v1 : Int)) / 4294967296 != 0) = true := by simp; omega
     have gsm := GD.out.small htop hbr
     have ge := GD.out
     have gend := hid (guess_end ge.S hV0 (by omega) o4 o2 ge.eq gsm ge.hi (.inr hbr))
     clear ge
     go_wp2
     go_quiet (fail)
     go_wp2_with fail
     go_meet
     exact ⟨G - 1, val_i (by omega), gsm, (by repeat (first | assumption | refine LB.drew ?_ | refine LB.drewN ?_ _ | refine LB.alloc ?_ _ | refine LB.far ?_ hne _ _)), (by repeat (first | assumption | refine LB.drew ?_ | refine LB.drewN ?_ _ | refine LB.alloc ?_ _ | refine LB.far ?_ hne _ _)), (by repeat (first | exact hgr | exact World.grownBy.refl _ _ | refine only_drew ?_ | refine only_drewN ?_ _ | refine only_setCell ?_ _ _ | refine only_alloc ?_ _)), gend⟩
    ·have t3 : (((R : Int) + (v1 : Int)) / 4294967296 != 0) = false := by simp; omega
     go_wp2
     go_quiet (fail)
     go_wp2_with fail
     go_roundw
     case rel => exact ⟨G - 1, R + v1, val_i (by omega), val_i (by omega), by omega, by omega, (by repeat (first | assumption | refine LB.drew ?_ | refine LB.drewN ?_ _ | refine LB.alloc ?_ _ | refine LB.far ?_ hne _ _)), (by repeat (first | assumption | refine LB.drew ?_ | refine LB.drewN ?_ _ | refine LB.alloc ?_ _ | refine LB.far ?_ hne _ _)), (by repeat (first | exact hgr | exact World.grownBy.refl _ _ | refine only_drew ?_ | refine only_drewN ?_ _ | refine only_setCell ?_ _ _ | refine only_alloc ?_ _)), GD⟩
     case measure => simp [intOf]; omega
   ·have t1 : ((G : Int) / 4294967296 != 0) = false := by simp; omega
    obtain ⟨p0, p1⟩ := prod_bd G v2 (by omega) o4
    by_cases htest : R * 4294967296 + u2 < G * v2
    ·have t2 : decide ((R : Int) * 4294967296 + (u2 : Int) < (G : Int) * (v2 : Int)) = true := by
      rw [← Int.natCast_mul]; simp only [decide_eq_true_eq]; omega
     obtain ⟨g0, gd⟩ := hgs.out.down hV0 HQ.out (.inr htest)
     have GD := hid gd
     clear gd
     by_cases hbr : 4294967296 ≤ R + v1
     ·have t3 : (((R : Int) + (v1 : Int)) / 4294967296 != 0) = true := by simp; omega
      have gsm := GD.out.small htop hbr
      have ge := GD.out
      have gend := hid (guess_end ge.S hV0 (by omega) o4 o2 ge.eq gsm ge.hi (.inr hbr))
      clear ge
      go_wp2
      go_quiet (fail)
      go_wp2_with fail
      go_meet
      exact ⟨G - 1, val_i (by omega), gsm, (by repeat (first | assumption | refine LB.drew ?_ | refine LB.drewN ?_ _ | refine LB.alloc ?_ _ | refine LB.far ?_ hne _ _)), (by repeat (first | assumption | refine LB.drew ?_ | refine LB.drewN ?_ _ | refine LB.alloc ?_ _ | refine LB.far ?_ hne _ _)), (by repeat (first | exact hgr | exact World.grownBy.refl _ _ | refine only_drew ?_ | refine only_drewN ?_ _ | refine only_setCell ?_ _ _ | refine only_alloc ?_ _)), gend⟩
     ·have t3 : (((R : Int) + (v1 : Int)) / 4294967296 != 0) = false := by simp; omega
      go_wp2
      go_quiet (fail)
      go_wp2_with fail
      go_roundw
      case rel => exact ⟨G - 1, R + v1, val_i (by omega), val_i (by omega), by omega, by omega, (by repeat (first | assumption | refine LB.drew ?_ | refine LB.drewN ?_ _ | refine LB.alloc ?_ _ | refine LB.far ?_ hne _ _)), (by repeat (first | assumption | refine LB.drew ?_ | refine LB.drewN ?_ _ | refine LB.alloc ?_ _ | refine LB.far ?_ hne _ _)), (by repeat (first | exact hgr | exact World.grownBy.refl _ _ | refine only_drew ?_ | refine only_drewN ?_ _ | refine only_setCell ?_ _ _ | refine only_alloc ?_ _)), GD⟩
      case measure => simp [intOf]; omega
    ·have t2 : decide ((R : Int) * 4294967296 + (u2 : Int) < (G : Int) * (v2 : Int)) = false := by
      rw [← Int.natCast_mul]; simp only [decide_eq_false_iff_not]; omega
     have ge := hgs.out
     have gend := hid (guess_end ge.S hV0 (by omega) o4 o2 ge.eq (by omega) ge.hi (.inl (by omega)))
     clear ge
     go_wp2
     go_quiet (fail)
     go_wp2_with fail
     go_meet
     exact ⟨G, rfl, by omega, (by repeat (first | assumption | refine LB.drew ?_ | refine LB.drewN ?_ _ | refine LB.alloc ?_ _ | refine LB.far ?_ hne _ _)), (by repeat (first | assumption | refine LB.drew ?_ | refine LB.drewN ?_ _ | refine LB.alloc ?_ _ | refine LB.far ?_ hne _ _)), (by repeat (first | exact hgr | exact World.grownBy.refl _ _ | refine only_drew ?_ | refine only_drewN ?_ _ | refine only_setCell ?_ _ _ | refine only_alloc ?_ _)), gend⟩
 case rest =>
  obtain ⟨G, rfl, hGb, hL1, hV1, hgr1, hGq⟩ := hcut
  clear hL hV cU0 cU1 cV1 hor1 htd htm hrl hG0 HG HU
  go_wp2_with fail
  go_loopw [9, 10, 88] (fun s9 s10 s88 wr => ∃ (i c d : Nat) (L : List Nat), i ≤ n ∧ s88 = .int .i64 i ∧ s9 = .int .u64 c ∧ s10 = .int .u64 d ∧ c < 4294967296 ∧ d ≤ 1 ∧ LB wr g L ∧ LB wr hv (vs ++ Z) ∧ w.grownBy wr (some g) ∧ SubMAt G Pre low Q vs h i c d L) (fun _ _ s88 _ => n - (intOf s88).toNat)
  case atStart => exact ⟨0, 0, 0, _, by omega, rfl, rfl, rfl, by omega, by omega, hL1, hV1, hgr1, .start _ _ _ _ _ _⟩
  case round =>
   obtain ⟨i, c, d, L, hi, rfl, rfl, rfl, hc, hd, hL, hV, hgr, hat⟩ := hrel
   clear hL1 hV1 hgr1
   by_cases hin : i < n
   ·have c1 := hat.cell hL HJ.out.1 HJ.out.2.1 hin
    have f1 := hL.free (j + i)
    have c2 := v_cell hV HJ.out.2.2 hin
    have b1 : low.getD i 0 < 4294967296 := by rw [gd (by have := HJ.out.2.1; omega)]; exact okl.get _
    have b2 : vs.getD i 0 < 4294967296 := by rw [gd (by have := HJ.out.2.2; omega)]; exact okv.get _
    have hst := hat.step HJ.out.1 HJ.out.2.1 HJ.out.2.2 hin
    generalize low.getD i 0 = y at *
    generalize vs.getD i 0 = x at *
    obtain ⟨p0, p1⟩ := prod_bd G x hGb b2
    have hp : (G : Int) * (x : Int) = ((G * x : Nat) : Int) := (Int.natCast_mul _ _).symm
    rw [hp] at p0 p1
    generalize G * x = P0 at *
    go_wp2
    go_roundw
    case rel => exact ⟨i + 1, (P0 + c) / 4294967296, _, _, by omega, by go_num, by go_num, val_i (subm_hi _ _ _ _ b1 hd), by omega, ite_le1 _, hL.set_ _ _ _ (subm_lo _ _ _ _ b1 hd), (by repeat (first | assumption | refine LB.drew ?_ | refine LB.drewN ?_ _ | refine LB.alloc ?_ _ | refine LB.far ?_ hne _ _)), (by repeat (first | exact hgr | exact World.grownBy.refl _ _ | refine only_drew ?_ | refine only_drewN ?_ _ | refine only_setCell ?_ _ _ | refine only_alloc ?_ _)), hst⟩
    case measure => simp [intOf]; omega
   ·obtain rfl : i = n := by omega
    have c1 := hat.top hL HJ.out.1 HJ.out.2.1 (Nat.le_refl _)
    have f1 := hL.free (j + i)
    obtain ⟨hLe, hcd⟩ := hat.last HJ.out.2.1 HJ.out.2.2
    have hms : (subM G vs low 0 0).1.length = i := by rw [length_subM _ _ _ _ _ (by rw [HJ.out.2.1, HJ.out.2.2]), HJ.out.2.2]
    have hspec := hid (stepL_spec (g := G) (h := h) (v := vs) (low := low) (by rw [HJ.out.2.1, HJ.out.2.2]) okl okh okv hGb hV0 hGq.out)
    have HL := hid hLe
    have HC := hid hcd
    clear hLe hcd
    by_cases hcd : c + d ≤ h
    ·have t1 : (((h : Int) - (c : Int) - (d : Int)) / 9223372036854775808 == 0) = true := by simp; omega
     go_wp2
     go_ret
     have hsp := hspec.out
     unfold stepL at hsp
     simp only [HC.out, if_pos hcd] at hsp
     obtain ⟨s1, s2, s3, s4, s5⟩ := hsp
     refine ⟨(subM G vs low 0 0).1, ret_int (by rw [← s1]), ?_, (by repeat (first | exact hgr | exact World.grownBy.refl _ _ | refine only_drew ?_ | refine only_drewN ?_ _ | refine only_setCell ?_ _ _ | refine only_alloc ?_ _)), s2, hms, s4⟩
     have hz := hL.set_ (j + i) ((h : Int) - c - d) (h - c - d) (by omega)
     rw [HL.out, set_top HJ.out.1 hms, s3] at hz
     exact hz
    ·have hlt : h < c + d := by omega
     have t1 := subh_hi h c d okh hc hd hlt
     have hG1 := subM_pos (v := vs) (low := low) (by rw [HJ.out.2.1, HJ.out.2.2]) okl HC.out hlt
     have hlo := subh_lo h c d okh hc hd
     have hz := hL.set_ (j + i) _ _ hlo
     have hsp := hspec.out
     unfold stepL at hsp
     simp only [HC.out, if_neg hcd] at hsp
     obtain ⟨s1, s2, s3, s4, s5⟩ := hsp
     rw [HL.out, set_top HJ.out.1 hms] at hz
     have okM := ok_subM G vs low 0 0
     clear hspec HC HL hat
     generalize (subM G vs low 0 0).1 = M at *
     generalize hh : (h + 18446744073709551616 - c - d) % 4294967296 = h' at *
     have hh' : h' < 4294967296 := by omega
     have HS := hid (And.intro s1 (And.intro s2 (And.intro s3 (And.intro s4 (And.intro s5 (And.intro hms okM))))))
     have HH := hid hh
     clear s1 s2 s3 s4 s5 hms okM hh hlo
     go_wp2_with fail
     go_loopw [9, 141] (fun s9 s141 wr => ∃ (k e : Nat) (L : List Nat), k ≤ i ∧ s141 = .int .i64 k ∧ s9 = .int .u64 e ∧ e ≤ 1 ∧ LB wr g L ∧ LB wr hv (vs ++ Z) ∧ w.grownBy wr (some g) ∧ AddBAt Pre M Q vs h' k e L) (fun _ s141 _ => i - (intOf s141).toNat)
     case atStart => exact ⟨0, 0, _, by omega, rfl, rfl, by omega, hz, (by repeat (first | assumption | refine LB.drew ?_ | refine LB.drewN ?_ _ | refine LB.alloc ?_ _ | refine LB.far ?_ hne _ _)), (by repeat (first | exact hgr | exact World.grownBy.refl _ _ | refine only_drew ?_ | refine only_drewN ?_ _ | refine only_setCell ?_ _ _ | refine only_alloc ?_ _)), .start _ _ _ _ _⟩
     case round =>
      obtain ⟨k, e, L, hk, rfl, rfl, he, hL, hV, hgr, hat⟩ := hrel
      clear hz c1 f1
      by_cases hki : k < i
      ·have c1 := hat.cell hL HJ.out.1 HS.out.2.2.2.2.2.1 hki
       have f1 := hL.free (j + k)
       have c2 := v_cell hV HJ.out.2.2 hki
       have b1 : M.getD k 0 < 4294967296 := by rw [gd (by have := HS.out.2.2.2.2.2.1; omega)]; exact HS.out.2.2.2.2.2.2.get _
       have b2 : vs.getD k 0 < 4294967296 := by rw [gd (by have := HJ.out.2.2; omega)]; exact okv.get _
       have hst := hat.step HJ.out.1 HS.out.2.2.2.2.2.1 HJ.out.2.2 hki
       generalize M.getD k 0 = y at *
       generalize vs.getD k 0 = x at *
       go_wp2
       go_roundw
       case rel => exact ⟨k + 1, (y + x + e) / 4294967296, _, by omega, by go_num, by go_num, by omega, hL.set_ _ _ ((y + x + e) % 4294967296) (by omega), (by repeat (first | assumption | refine LB.drew ?_ | refine LB.drewN ?_ _ | refine LB.alloc ?_ _ | refine LB.far ?_ hne _ _)), (by repeat (first | exact hgr | exact World.grownBy.refl _ _ | refine only_drew ?_ | refine only_drewN ?_ _ | refine only_setCell ?_ _ _ | refine only_alloc ?_ _)), hst⟩
       case measure => simp [intOf]; omega
      ·obtain rfl : k = i := by omega
       have c1 := hat.top hL HJ.out.1 HS.out.2.2.2.2.2.1 (Nat.le_refl _)
       have f1 := hL.free (j + k)
       obtain ⟨hLe, hee⟩ := hat.last HS.out.2.2.2.2.2.1 HJ.out.2.2
       have HL2 := hid hLe
       have HE := hid hee
       clear hLe hee
       have hbl : (addB vs M 0).1.length = k := by rw [length_addB _ _ _ (by rw [HJ.out.2.2, HS.out.2.2.2.2.2.1]), HJ.out.2.2]
       have HBL := hid hbl
       clear hbl
       go_wp2
       go_ret
       obtain ⟨s1, s2, s3, s4, s5, hms, okM⟩ := HS.out
       have h3 := HH.out
       rw [HE.out] at s3
       refine ⟨(addB vs M 0).1, ret_int (by rw [← s1]; omega), ?_, (by repeat (first | exact hgr | exact World.grownBy.refl _ _ | refine only_drew ?_ | refine only_drewN ?_ _ | refine only_setCell ?_ _ _ | refine only_alloc ?_ _)), s2, HBL.out, s4⟩
       have hz := hL.set_ (j + k) (IntKind.u32.wrap ((h' : Int) + e)) ((h' + e) % 4294967296) (by rw [IntKind.wrap_u32']; omega)
       rw [HL2.out, set_top HJ.out.1 HBL.out, show (h' + e) % 4294967296 = 0 by omega] at hz
       exact hz
end Go.Proofs.YtfdmlfpldgobjaaGreatDoor
