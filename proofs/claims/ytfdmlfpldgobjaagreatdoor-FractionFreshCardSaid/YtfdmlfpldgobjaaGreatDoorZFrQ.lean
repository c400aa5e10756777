/- Package fraction: walks of Format and Parse. Conditions: none. -/
import Derived.Test.YtfdmlfpldgobjaaGreatDoorZYM
import Derived.Test.YtfdmlfpldgobjaaGreatDoorZYN
import Derived.Test.YtfdmlfpldgobjaaGreatDoorZYE
import Derived.Test.YtfdmlfpldgobjaaGreatDoorSh4
set_option linter.unusedVariables false
set_option linter.unusedSimpArgs false
namespace Go.Proofs.YtfdmlfpldgobjaaGreatDoor
open Go.RowKit Big Go.Lib
theorem Format_v {x : Int} {b : Bool} {n : Nat} {L : List Nat} {A : Option Addr} {c : Nat} {w : World} (I : Iz x b n L) (ha : Mg w A c L) (fx : fits x) (htab : PowTab w) :
  Calls Tryz.prog 55 #[.agg #[.bool b, .slice A n c]] w (RetS w (fmtZ x)) := by
 obtain ⟨rfl, rfl, rfl⟩ := I
 by_cases h0 : x = 0
 ·subst h0
  have h1 := Format_zero A c w ha
  rw [show [48] = fmtZ 0 by decide +kernel] at h1
  exact h1
 ·exact Format_ok x A c w ha fx h0 htab
theorem bytes_cat (a b : List UInt8) : (⟨a.toArray⟩ : ByteArray) ++ ⟨b.toArray⟩ = ⟨(a ++ b).toArray⟩ := by
 apply ByteArray.ext
 simp [ByteArray.data_append]
set_option maxRecDepth 100000 in
set_option maxHeartbeats 4000000 in
theorem FrFormat_any {na nb : Bool} {xs ys : List Nat} {A B : Option Addr} {ca cb : Nat} {w : World} (ma : Mg w A ca xs) (mb : Mg w B cb ys) (htab : PowTab w) :
  Calls Tryz.prog 27 #[.agg #[.bool na, .slice A xs.length ca, .bool nb, .slice B ys.length cb]] w (RetS w (fmtR na xs nb ys)) := by
 have HX := hid fun (w1 : World) (h : Below w.heap.size w w1) => Frvalid1 (na := na) (nb := nb) (u := w1) (ma.below h) (mb.below h)
 cases v1 : fvB na xs nb ys
 ·have hr_ : fmtR na xs nb ys = [] := by unfold fmtR; rw [v1]; rfl
  rw [hr_]
  rw [v1] at HX
  clear hr_ v1 ma mb
  generalize xs.length = ka at *
  generalize ys.length = la at *
  go_enter Tryz.func27, Tryz.ntmps27
  go_wp2_with fail
  refine enterF (P := fun u => Calls _ _ _ (u.alloc _) _) ?_
  intro u HB q0 q1 q2 q3 z1 hsz
  have f_z1 := z1.fr
  have lt_q0 := cell_lt q0
  have HX2 := HX.out u HB
  rw [hsz.out] at HX2
  refine HX2.mono ?_
  clear HX2
  rintro e w1 ⟨rfl, h1⟩
  have hv_ : Below u.heap.size u w1 := Below.trans (b := _) (by repeat (first | assumption | exact Bv _ _ | refine Ba ?_ (by simp; try omega) _ | refine Bd ?_ | refine Bn ?_ _)) (h1.mono (by simp; try omega))
  replace q0 := keep_cell hv_ q0
  replace q1 := keep_cell hv_ q1
  replace q2 := keep_cell hv_ q2
  replace q3 := keep_cell hv_ q3
  have lt_q0 := cell_lt q0
  have lt_q1 := cell_lt q1
  have lt_q2 := cell_lt q2
  have lt_q3 := cell_lt q3
  replace z1 := z1.below hv_
  replace f_z1 := z1.fr
  replace HB := HB.trans (hv_.mono HB.size)
  clear hv_
  go_wp2
  go_ret
  exact ⟨rfl, HB⟩
 ·rw [v1] at HX
  obtain ⟨rfl, p1, p2, p3, p4, p5, p6⟩ := fvB_ok ma.ok mb.ok v1
  have hr_ : fmtR na xs false ys = fmtF (sg na (val xs), val ys) := by unfold fmtR; rw [v1]; rfl
  rw [hr_]
  have IF : Hid (Fz (sg na (val xs), val ys) na xs.length xs ys.length ys) := ⟨p1, by rw [natAbs_sg]; exact p2, rfl, p3, rfl⟩
  generalize (sg na (val xs), val ys) = f at *
  clear hr_ v1 p1 p2 p3 p4
  generalize xs.length = ka at *
  generalize ys.length = la at *
  have HF1 := hid fun (w1 : World) (h : Below w.heap.size w w1) => Format_v (w := w1) IF.out.num (ma.below h) (by unfold fits; rw [IF.out.n.len]; exact p5) (htab.below h)
  have HF2 := hid fun (w1 : World) (h : Below w.heap.size w w1) => Format_v (w := w1) IF.out.den (mb.below h) (by rw [fits_nat, IF.out.d.len]; exact p6) (htab.below h)
  by_cases h1 : f.2 = 1
  ·have hs : fmtF f = fmtZ f.1 := by unfold fmtF; rw [if_pos h1]
   rw [hs]
   rw [(fmt_one f.2).2 h1] at HF2
   clear hs h1 ma mb IF
   generalize fmtZ f.1 = l1 at *
   go_enter Tryz.func27, Tryz.ntmps27
   go_wp2_with fail
   refine enterF (P := fun u => Calls _ _ _ (u.alloc _) _) ?_
   intro u HB q0 q1 q2 q3 z1 hsz
   have f_z1 := z1.fr
   have lt_q0 := cell_lt q0
   have HX2 := HX.out u HB
   rw [hsz.out] at HX2
   refine HX2.mono ?_
   clear HX2
   rintro e w1 ⟨rfl, h1⟩
   have hv_ : Below u.heap.size u w1 := Below.trans (b := _) (by repeat (first | assumption | exact Bv _ _ | refine Ba ?_ (by simp; try omega) _ | refine Bd ?_ | refine Bn ?_ _)) (h1.mono (by simp; try omega))
   replace q0 := keep_cell hv_ q0
   replace q1 := keep_cell hv_ q1
   replace q2 := keep_cell hv_ q2
   replace q3 := keep_cell hv_ q3
   have lt_q0 := cell_lt q0
   have lt_q1 := cell_lt q1
   have lt_q2 := cell_lt q2
   have lt_q3 := cell_lt q3
   replace z1 := z1.below hv_
   replace f_z1 := z1.fr
   replace HB := HB.trans (hv_.mono HB.size)
   clear hv_
   go_wp2_with fail
   go_region_held3 (fun w' => w'.cell? ⟨w.heap.size, 0, none⟩ = some (.bool na) ∧ w'.cell? ⟨w.heap.size, 1, none⟩ = some (.slice A ka ca) ∧ w'.cell? ⟨w.heap.size, 2, none⟩ = some (.bool false) ∧ w'.cell? ⟨w.heap.size, 3, none⟩ = some (.slice B la cb)) (first | ((try dsimp only); repeat' (first | with_reducible assumption | apply And.intro | (with_reducible refine keep_alloc ?_) | (with_reducible refine keep_drew ?_) | (with_reducible refine keep_set (by first | omega | (simp only [World.size_alloc, World.size_setCell, World.size_drew]; done) | (simp only [World.size_alloc, World.size_setCell, World.size_drew]; omega)) ?_) | (with_reducible refine keep_cell (W := w1) ?_ ?_) | fail))) (first | (go_at_call 55; (with_reducible refine (HF1.out _ (bel_step HB BG)).mono ?_); rintro e y1 ⟨rfl, hq_⟩; have qy1 : Below w1.heap.size w1 y1 := bel_step BG hq_) | (go_at_call 55; (with_reducible refine (HF2.out _ (bel_step HB BG)).mono ?_); rintro e y2 ⟨rfl, hq_⟩; have qy2 : Below w1.heap.size w1 y2 := bel_step BG hq_))
   all_goals
    go_wp2_with fail
    go_ret
    exact ⟨rfl, HB.trans (qy2.mono HB.size)⟩
  ·have hs : fmtF f = fmtZ f.1 ++ 47 :: fmtZ (f.2 : Int) := by unfold fmtF; rw [if_neg h1]
   rw [hs]
   have hne : ¬ fmtZ (f.2 : Int) = [49] := fun h => h1 ((fmt_one f.2).1 h)
   have hl1 : (fmtZ f.1).length ≤ 20000 := by have := fmtZ_len f.1; rw [IF.out.n.len] at this; omega
   have hl2 : (fmtZ (f.2 : Int)).length ≤ 20000 := by have := fmtZ_len (f.2 : Int); rw [Int.natAbs_natCast, IF.out.d.len] at this; omega
   clear hs h1 ma mb IF
   generalize fmtZ f.1 = l1 at *
   generalize fmtZ (f.2 : Int) = l2 at *
   have hne2 : ((⟨l2.toArray⟩ : ByteArray).toList == [49]) = false := by
    rw [ByteArray.toList_eq]
    simpa using hne
   have hz1 : (⟨l1.toArray⟩ : ByteArray).size ≤ 20000 := by rw [show (⟨l1.toArray⟩ : ByteArray).size = l1.length by simp [ByteArray.size]]; exact hl1
   have hz2 : (⟨l2.toArray⟩ : ByteArray).size ≤ 20000 := by rw [show (⟨l2.toArray⟩ : ByteArray).size = l2.length by simp [ByteArray.size]]; exact hl2
   have hcat := hid (show (⟨l1.toArray⟩ : ByteArray) ++ ⟨#[47]⟩ ++ ⟨l2.toArray⟩ = ⟨(l1 ++ 47 :: l2).toArray⟩ by
    rw [show (⟨#[47]⟩ : ByteArray) = ⟨[47].toArray⟩ by rfl, bytes_cat, bytes_cat, List.append_assoc]; rfl)
   generalize hD1 : (⟨l1.toArray⟩ : ByteArray) = D1 at *
   generalize hD2 : (⟨l2.toArray⟩ : ByteArray) = D2 at *
   generalize hD3 : (⟨(l1 ++ 47 :: l2).toArray⟩ : ByteArray) = D3 at *
   unfold RetS at HF1 HF2
   simp only [hD1, hD2] at HF1 HF2
   have hD := hid hD3
   clear hne hD1 hD2 hD3 hl1 hl2
   go_enter Tryz.func27, Tryz.ntmps27
   go_wp2_with fail
   refine enterF (P := fun u => Calls _ _ _ (u.alloc _) _) ?_
   intro u HB q0 q1 q2 q3 z1 hsz
   have f_z1 := z1.fr
   have lt_q0 := cell_lt q0
   have HX2 := HX.out u HB
   rw [hsz.out] at HX2
   refine HX2.mono ?_
   clear HX2
   rintro e w1 ⟨rfl, h1⟩
   have hv_ : Below u.heap.size u w1 := Below.trans (b := _) (by repeat (first | assumption | exact Bv _ _ | refine Ba ?_ (by simp; try omega) _ | refine Bd ?_ | refine Bn ?_ _)) (h1.mono (by simp; try omega))
   replace q0 := keep_cell hv_ q0
   replace q1 := keep_cell hv_ q1
   replace q2 := keep_cell hv_ q2
   replace q3 := keep_cell hv_ q3
   have lt_q0 := cell_lt q0
   have lt_q1 := cell_lt q1
   have lt_q2 := cell_lt q2
   have lt_q3 := cell_lt q3
   replace z1 := z1.below hv_
   replace f_z1 := z1.fr
   replace HB := HB.trans (hv_.mono HB.size)
   clear hv_
   go_wp2_with fail
   go_region_held3 (fun w' => w'.cell? ⟨w.heap.size, 0, none⟩ = some (.bool na) ∧ w'.cell? ⟨w.heap.size, 1, none⟩ = some (.slice A ka ca) ∧ w'.cell? ⟨w.heap.size, 2, none⟩ = some (.bool false) ∧ w'.cell? ⟨w.heap.size, 3, none⟩ = some (.slice B la cb)) (first | ((try dsimp only); repeat' (first | with_reducible assumption | apply And.intro | (with_reducible refine keep_alloc ?_) | (with_reducible refine keep_drew ?_) | (with_reducible refine keep_set (by first | omega | (simp only [World.size_alloc, World.size_setCell, World.size_drew]; done) | (simp only [World.size_alloc, World.size_setCell, World.size_drew]; omega)) ?_) | (with_reducible refine keep_cell (W := w1) ?_ ?_) | fail))) (first | (go_at_call 55; (with_reducible refine (HF1.out _ (bel_step HB BG)).mono ?_); rintro e y1 ⟨rfl, hq_⟩; have qy1 : Below w1.heap.size w1 y1 := bel_step BG hq_) | (go_at_call 55; (with_reducible refine (HF2.out _ (bel_step HB BG)).mono ?_); rintro e y2 ⟨rfl, hq_⟩; have qy2 : Below w1.heap.size w1 y2 := bel_step BG hq_))
   all_goals
    go_wp2_with fail
    go_ret
    exact ⟨by rw [hcat.out, hD.out]; rfl, HB.trans (qy2.mono HB.size)⟩
/-- the cell of the variable MaxLen is there -/
def LenAt (w : World) : Prop := ∃ m, w.cell? ⟨0, 0, none⟩ = some (.int .i64 m)
theorem LenAt.below {w w' : World} (h : LenAt w) (hb : Below w.heap.size w w') : LenAt w' := by
 obtain ⟨m, hm⟩ := h; exact ⟨m, keep_cell hb hm⟩
theorem FrNew_z {x y : Int} {bx by_ : Bool} {kx ky : Nat} {Lx Ly : List Nat} {R Q : Option Addr} {c d : Nat} {w1 : World} (IX : Iz x bx kx Lx) (IY : Iz y by_ ky Ly) (fx : fits x) (fy : fits y) {p : Int × Nat} {err : Int} (hq : newE x y = (p, err)) {bq : Bool} {kq lq : Nat} {Xq Yq : List Nat} (IQ : Fz p bq kq Xq lq Yq) (mx : Mg w1 R c Lx) (my : Mg w1 Q d Ly) :
  Calls Tryz.prog 9 #[.agg #[.bool bx, .slice R kx c], .agg #[.bool by_, .slice Q ky d]] w1 (GF w1 bq kq Xq lq Yq err) := by
 obtain ⟨rfl, rfl, rfl⟩ := IX
 obtain ⟨rfl, rfl, rfl⟩ := IY
 have h := FrNew_any (w := w1) (na := decide (x < 0)) (nb := decide (y < 0)) mx my
 rw [newR_int x y fx fy, hq] at h
 exact h.mono fun e w' h => RetFE.g h IQ
set_option maxRecDepth 100000 in
set_option maxHeartbeats 4000000 in
theorem FrParse_any (s : ByteArray) (w : World) (hl : LenAt w) (hs : s.size < 4294967281) :
  Calls Tryz.prog 25 #[.string s] w (RetFE w (parF s.data.toList)) := by
 obtain ⟨S1, hS1⟩ : ∃ S : ByteArray, S = ⟨(s.data.toList.take (at47 s.data.toList)).toArray⟩ := ⟨_, rfl⟩
 obtain ⟨S2, hS2⟩ : ∃ S : ByteArray, S = ⟨(s.data.toList.drop (at47 s.data.toList + 1)).toArray⟩ := ⟨_, rfl⟩
 obtain ⟨sl, hsl⟩ : ∃ b : Bool, b = decide (at47 s.data.toList < s.data.toList.length) := ⟨_, rfl⟩
 have HC := hid fun (w1 : World) (h : Below w.heap.size w w1) => (show Calls Tryz.prog 50 #[.string s, .string ⟨#[47]⟩] w1 (fun e w' => e = .returned (.tuple #[.string S1, .string S2, .bool sl]) ∧ Below w1.heap.size w1 w') by
  obtain ⟨m, hm⟩ := hl.below h
  refine (Tryz.strings_Cut s ⟨#[47]⟩ m w1 hs hm).mono ?_
  rintro e w' ⟨rfl, n, rfl⟩
  rw [show (⟨#[47]⟩ : ByteArray).data.toList = [47] by rfl, cut47, hS1, hS2, hsl]
  exact ⟨rfl, below_drewN (Below.refl _ _) _⟩)
 have e1 : s.data.toList.take (at47 s.data.toList) = S1.data.toList := by rw [hS1]
 have e2 : s.data.toList.drop (at47 s.data.toList + 1) = S2.data.toList := by rw [hS2]
 have hR : parF s.data.toList = if (parE S1.data.toList).2 ≠ 0 then ((0, 0), (parE S1.data.toList).2) else if sl = false then newE (parE S1.data.toList).1 1 else if Lib.hasPrefix S2.data.toList [45] = true then ((0, 0), 9) else if (parE S2.data.toList).2 ≠ 0 then ((0, 0), (parE S2.data.toList).2) else newE (parE S1.data.toList).1 (parE S2.data.toList).1 := by
  unfold parF
  rw [e1, e2, hsl]
  simp only [decide_eq_false_iff_not]
 rw [hR]
 clear hR hS1 hS2 hsl e1 e2 hl hs
 have fp1 := parE_fits S1.data.toList
 have fp2 := parE_fits S2.data.toList
 have H1 := hid fun (w1 : World) => Parse_any S1 w1
 have H2 := hid fun (w1 : World) => Parse_any S2 w1
 have HP := hid fun (w1 : World) => Tryz.strings_HasPrefix S2 ⟨#[45]⟩ w1
 rw [show (⟨#[45]⟩ : ByteArray).data.toList = [45] by rfl] at HP
 generalize Lib.hasPrefix S2.data.toList [45] = pre at *
 generalize (parE S1.data.toList).1 = z1_ at *
 generalize (parE S2.data.toList).1 = z2_ at *
 generalize (parE S1.data.toList).2 = err1 at *
 generalize (parE S2.data.toList).2 = err2 at *
 obtain ⟨b1, n1, L1, I1⟩ := iz z1_
 obtain ⟨b2, n2, L2, I2⟩ := iz z2_
 obtain ⟨bo, no, Lo, Io⟩ := iz 1
 replace H1 := hid fun (w1 : World) => (H1.out w1).mono fun e w' h => h.g I1.out
 replace H2 := hid fun (w1 : World) => (H2.out w1).mono fun e w' h => h.g I2.out
 have HI1 := hid fun (w1 : World) => FromInt_g (w := w1) Io.out (by omega) (by omega)
 by_cases he1 : err1 = 0
 ·subst he1
  rw [if_neg (by simp)]
  cases sl
  ·rw [if_pos rfl]
   obtain ⟨⟨p, err⟩, hq⟩ : ∃ q, newE z1_ 1 = q := ⟨_, rfl⟩
   obtain ⟨bq, kq, Xq, lq, Yq, IQ⟩ := fz p
   have HN := hid fun (w1 : World) (R Q : Option Addr) (c d : Nat) (m : Mg w1 R c L1) (m' : Mg w1 Q d Lo) => FrNew_z (w1 := w1) I1.out Io.out fp1 (valid_int 1 (by omega) (by omega)) hq IQ.out m m'
   rw [hq]
   clear hq I1 I2 Io fp1 fp2 H2 HP
   go_enter Tryz.func25, Tryz.ntmps25
   go_wp2_with fail
   refine enterF (P := fun u => Calls _ _ _ u _) ?_
   intro u HB q0 q1 q2 q3 z1 hsz
   clear hsz
   have f_z1 := z1.fr
   have lt_q0 := cell_lt q0
   refine (HC.out _ HB).mono ?_
   rintro e w1 ⟨rfl, h1⟩
   have hv_ : Below u.heap.size u w1 := Below.trans (b := _) (by repeat (first | assumption | exact Bv _ _ | refine Ba ?_ (by simp; try omega) _ | refine Bd ?_ | refine Bn ?_ _)) (h1.mono (by simp; try omega))
   replace q0 := keep_cell hv_ q0
   replace q1 := keep_cell hv_ q1
   replace q2 := keep_cell hv_ q2
   replace q3 := keep_cell hv_ q3
   have lt_q0 := cell_lt q0
   have lt_q1 := cell_lt q1
   have lt_q2 := cell_lt q2
   have lt_q3 := cell_lt q3
   replace z1 := z1.below hv_
   replace f_z1 := z1.fr
   replace HB := HB.trans (hv_.mono HB.size)
   clear hv_
   go_wp2_with fail
   refine (H1.out _).mono ?_
   rintro e w2 ⟨R1, c1, rfl, m1, h2⟩
   have hv_ : Below w1.heap.size w1 w2 := Below.trans (b := _) (by repeat (first | assumption | exact Bv _ _ | refine Ba ?_ (by simp; try omega) _ | refine Bd ?_ | refine Bn ?_ _)) (h2.mono (by simp; try omega))
   replace q0 := keep_cell hv_ q0
   replace q1 := keep_cell hv_ q1
   replace q2 := keep_cell hv_ q2
   replace q3 := keep_cell hv_ q3
   have lt_q0 := cell_lt q0
   have lt_q1 := cell_lt q1
   have lt_q2 := cell_lt q2
   have lt_q3 := cell_lt q3
   replace z1 := z1.below hv_
   replace f_z1 := z1.fr
   replace HB := HB.trans (hv_.mono HB.size)
   clear hv_
   go_upto_region 3 with fail
   have a0 := at_alloc0 (W := w2) (a := .bool b1) (b := .slice R1 n1 c1) (t := 24) rfl
   have a1 := at_alloc1 (W := w2) (a := .bool b1) (b := .slice R1 n1 c1) (t := 24) rfl
   have hv_ : Below w2.heap.size w2 (w2.alloc (.cells #[.bool b1, .slice R1 n1 c1] 24)) := (Below.refl _ _).alloc (Nat.le_refl _) _
   generalize w2.alloc (.cells #[.bool b1, .slice R1 n1 c1] 24) = u2 at *
   replace m1 := m1.below hv_
   replace z1 := z1.below hv_
   replace q0 := keep_cell hv_ q0
   replace q1 := keep_cell hv_ q1
   replace q2 := keep_cell hv_ q2
   replace q3 := keep_cell hv_ q3
   replace HB := HB.trans (hv_.mono HB.size)
   clear hv_
   have lt_a := cell_lt a0
   have f_z1 := z1.fr
   go_wp2_with fail
   refine (HI1.out _).mono ?_
   rintro e w3 ⟨R3, c3, rfl, m3, h3⟩
   have hv_ : Below u2.heap.size u2 w3 := Below.trans (b := _) (by repeat (first | assumption | exact Bv _ _ | refine Ba ?_ (by simp; try omega) _ | refine Bd ?_ | refine Bn ?_ _)) (h3.mono (by simp; try omega))
   replace m1 := m1.below hv_
   replace a0 := keep_cell hv_ a0
   replace a1 := keep_cell hv_ a1
   replace q0 := keep_cell hv_ q0
   replace q1 := keep_cell hv_ q1
   replace q2 := keep_cell hv_ q2
   replace q3 := keep_cell hv_ q3
   have lt_a0 := cell_lt a0
   have lt_a1 := cell_lt a1
   have lt_q0 := cell_lt q0
   have lt_q1 := cell_lt q1
   have lt_q2 := cell_lt q2
   have lt_q3 := cell_lt q3
   replace z1 := z1.below hv_
   replace f_z1 := z1.fr
   replace HB := HB.trans (hv_.mono HB.size)
   clear hv_
   go_upto_region 6 with fail
   have k0 := at_alloc0 (W := w3) (a := .bool bo) (b := .slice R3 no c3) (t := 24) rfl
   have k1 := at_alloc1 (W := w3) (a := .bool bo) (b := .slice R3 no c3) (t := 24) rfl
   have zk : Zn (w3.alloc (.cells #[.bool bo, .slice R3 no c3] 24)) w3.heap.size := Zn.new rfl
   have hv_ : Below w3.heap.size w3 (w3.alloc (.cells #[.bool bo, .slice R3 no c3] 24)) := (Below.refl _ _).alloc (Nat.le_refl _) _
   generalize w3.alloc (.cells #[.bool bo, .slice R3 no c3] 24) = u3 at *
   replace m1 := m1.below hv_
   replace m3 := m3.below hv_
   replace z1 := z1.below hv_
   replace a0 := keep_cell hv_ a0
   replace a1 := keep_cell hv_ a1
   replace q0 := keep_cell hv_ q0
   replace q1 := keep_cell hv_ q1
   replace q2 := keep_cell hv_ q2
   replace q3 := keep_cell hv_ q3
   replace HB := HB.trans (hv_.mono HB.size)
   have f_zk := zk.fr
   clear hv_
   have lt_a := cell_lt a0
   have lt_k := cell_lt k0
   have f_z1 := z1.fr
   go_wp2_with fail
   refine (HN.out _ _ _ _ _ m1 m3).mono ?_
   rintro e w4 ⟨R4, c4, Q4, d4, rfl, m4, m4b, h4⟩
   have hv_ : Below u3.heap.size u3 w4 := Below.trans (b := _) (by repeat (first | assumption | exact Bv _ _ | refine Ba ?_ (by simp; try omega) _ | refine Bd ?_ | refine Bn ?_ _)) (h4.mono (by simp; try omega))
   replace q0 := keep_cell hv_ q0
   replace q1 := keep_cell hv_ q1
   replace q2 := keep_cell hv_ q2
   replace q3 := keep_cell hv_ q3
   have lt_q0 := cell_lt q0
   have lt_q1 := cell_lt q1
   have lt_q2 := cell_lt q2
   have lt_q3 := cell_lt q3
   replace z1 := z1.below hv_
   replace f_z1 := z1.fr
   replace HB := HB.trans (hv_.mono HB.size)
   clear hv_
   go_wp2
   refine bodyPost_ret (v := .tuple #[.agg #[.bool bq, .slice R4 kq c4, .bool false, .slice Q4 lq d4], .int .i64 err]) ?_ rfl ?_
   ·simp [results, Tryz.results25, go_sem, q0, q1, q2, q3]
   ·obtain ⟨j1_, j2_, j3_⟩ := fin_fr m4 m4b HB (by omega) q0 q1 q2 q3 (.bool bq) (.slice R4 kq c4) (.bool false) (.slice Q4 lq d4)
    exact GF.r ⟨R4, c4, Q4, d4, rfl, j1_, j2_, j3_⟩ IQ.out
  ·rw [if_neg (by simp)]
   cases pre
   ·rw [if_neg (by simp)]
    by_cases he2 : err2 = 0
    ·subst he2
     rw [if_neg (by simp)]
     obtain ⟨⟨p, err⟩, hq⟩ : ∃ q, newE z1_ z2_ = q := ⟨_, rfl⟩
     obtain ⟨bq, kq, Xq, lq, Yq, IQ⟩ := fz p
     have HN := hid fun (w1 : World) (R Q : Option Addr) (c d : Nat) (m : Mg w1 R c L1) (m' : Mg w1 Q d L2) => FrNew_z (w1 := w1) I1.out I2.out fp1 fp2 hq IQ.out m m'
     rw [hq]
     clear hq I1 I2 Io fp1 fp2
     go_enter Tryz.func25, Tryz.ntmps25
     go_wp2_with fail
     refine enterF (P := fun u => Calls _ _ _ u _) ?_
     intro u HB q0 q1 q2 q3 z1 hsz
     clear hsz
     have f_z1 := z1.fr
     have lt_q0 := cell_lt q0
     refine (HC.out _ HB).mono ?_
     rintro e w1 ⟨rfl, h1⟩
     have hv_ : Below u.heap.size u w1 := Below.trans (b := _) (by repeat (first | assumption | exact Bv _ _ | refine Ba ?_ (by simp; try omega) _ | refine Bd ?_ | refine Bn ?_ _)) (h1.mono (by simp; try omega))
     replace q0 := keep_cell hv_ q0
     replace q1 := keep_cell hv_ q1
     replace q2 := keep_cell hv_ q2
     replace q3 := keep_cell hv_ q3
     have lt_q0 := cell_lt q0
     have lt_q1 := cell_lt q1
     have lt_q2 := cell_lt q2
     have lt_q3 := cell_lt q3
     replace z1 := z1.below hv_
     replace f_z1 := z1.fr
     replace HB := HB.trans (hv_.mono HB.size)
     clear hv_
     go_wp2_with fail
     refine (H1.out _).mono ?_
     rintro e w2 ⟨R1, c1, rfl, m1, h2⟩
     have hv_ : Below w1.heap.size w1 w2 := Below.trans (b := _) (by repeat (first | assumption | exact Bv _ _ | refine Ba ?_ (by simp; try omega) _ | refine Bd ?_ | refine Bn ?_ _)) (h2.mono (by simp; try omega))
     replace q0 := keep_cell hv_ q0
     replace q1 := keep_cell hv_ q1
     replace q2 := keep_cell hv_ q2
     replace q3 := keep_cell hv_ q3
     have lt_q0 := cell_lt q0
     have lt_q1 := cell_lt q1
     have lt_q2 := cell_lt q2
     have lt_q3 := cell_lt q3
     replace z1 := z1.below hv_
     replace f_z1 := z1.fr
     replace HB := HB.trans (hv_.mono HB.size)
     clear hv_
     go_upto_region 3 with fail
     have a0 := at_alloc0 (W := w2) (a := .bool b1) (b := .slice R1 n1 c1) (t := 24) rfl
     have a1 := at_alloc1 (W := w2) (a := .bool b1) (b := .slice R1 n1 c1) (t := 24) rfl
     have hv_ : Below w2.heap.size w2 (w2.alloc (.cells #[.bool b1, .slice R1 n1 c1] 24)) := (Below.refl _ _).alloc (Nat.le_refl _) _
     generalize w2.alloc (.cells #[.bool b1, .slice R1 n1 c1] 24) = u2 at *
     replace m1 := m1.below hv_
     replace z1 := z1.below hv_
     replace q0 := keep_cell hv_ q0
     replace q1 := keep_cell hv_ q1
     replace q2 := keep_cell hv_ q2
     replace q3 := keep_cell hv_ q3
     replace HB := HB.trans (hv_.mono HB.size)
     clear hv_
     have lt_a := cell_lt a0
     have f_z1 := z1.fr
     go_wp2_with fail
     refine (HI1.out _).mono ?_
     rintro e w3 ⟨R3, c3, rfl, m3, h3⟩
     have hv_ : Below u2.heap.size u2 w3 := Below.trans (b := _) (by repeat (first | assumption | exact Bv _ _ | refine Ba ?_ (by simp; try omega) _ | refine Bd ?_ | refine Bn ?_ _)) (h3.mono (by simp; try omega))
     replace m1 := m1.below hv_
     replace a0 := keep_cell hv_ a0
     replace a1 := keep_cell hv_ a1
     replace q0 := keep_cell hv_ q0
     replace q1 := keep_cell hv_ q1
     replace q2 := keep_cell hv_ q2
     replace q3 := keep_cell hv_ q3
     have lt_a0 := cell_lt a0
     have lt_a1 := cell_lt a1
     have lt_q0 := cell_lt q0
     have lt_q1 := cell_lt q1
     have lt_q2 := cell_lt q2
     have lt_q3 := cell_lt q3
     replace z1 := z1.below hv_
     replace f_z1 := z1.fr
     replace HB := HB.trans (hv_.mono HB.size)
     clear hv_
     go_upto_region 6 with fail
     have k0 := at_alloc0 (W := w3) (a := .bool bo) (b := .slice R3 no c3) (t := 24) rfl
     have k1 := at_alloc1 (W := w3) (a := .bool bo) (b := .slice R3 no c3) (t := 24) rfl
     have zk : Zn (w3.alloc (.cells #[.bool bo, .slice R3 no c3] 24)) w3.heap.size := Zn.new rfl
     have hv_ : Below w3.heap.size w3 (w3.alloc (.cells #[.bool bo, .slice R3 no c3] 24)) := (Below.refl _ _).alloc (Nat.le_refl _) _
     generalize w3.alloc (.cells #[.bool bo, .slice R3 no c3] 24) = u3 at *
     replace m1 := m1.below hv_
     replace m3 := m3.below hv_
     replace z1 := z1.below hv_
     replace a0 := keep_cell hv_ a0
     replace a1 := keep_cell hv_ a1
     replace q0 := keep_cell hv_ q0
     replace q1 := keep_cell hv_ q1
     replace q2 := keep_cell hv_ q2
     replace q3 := keep_cell hv_ q3
     replace HB := HB.trans (hv_.mono HB.size)
     have f_zk := zk.fr
     clear hv_
     have lt_a := cell_lt a0
     have lt_k := cell_lt k0
     have f_z1 := z1.fr
     go_wp2_with fail
     refine (HP.out _).mono ?_
     rintro e w4 ⟨rfl, hw_⟩
     obtain rfl := hw_.symm
     go_wp2_with fail
     refine (H2.out _).mono ?_
     rintro e w5 ⟨R5, c5, rfl, m5, h5⟩
     have hv_ : Below u3.heap.size u3 w5 := Below.trans (b := _) (by repeat (first | assumption | exact Bv _ _ | refine Ba ?_ (by simp; try omega) _ | refine Bd ?_ | refine Bn ?_ _)) (h5.mono (by simp; try omega))
     replace m1 := m1.below hv_
     replace a0 := keep_cell hv_ a0
     replace a1 := keep_cell hv_ a1
     replace k0 := keep_cell hv_ k0
     replace k1 := keep_cell hv_ k1
     replace q0 := keep_cell hv_ q0
     replace q1 := keep_cell hv_ q1
     replace q2 := keep_cell hv_ q2
     replace q3 := keep_cell hv_ q3
     have lt_a0 := cell_lt a0
     have lt_a1 := cell_lt a1
     have lt_k0 := cell_lt k0
     have lt_k1 := cell_lt k1
     have lt_q0 := cell_lt q0
     have lt_q1 := cell_lt q1
     have lt_q2 := cell_lt q2
     have lt_q3 := cell_lt q3
     replace z1 := z1.below hv_
     replace zk := zk.below hv_
     replace f_z1 := z1.fr
     replace f_zk := zk.fr
     replace HB := HB.trans (hv_.mono HB.size)
     clear hv_
     go_upto_region 10 with fail
     obtain ⟨v0, v1, hoth, hmg, hzn, hbel⟩ := setI2F (u0 := .bool b2) (u1 := .slice R5 n2 c5) k0 k1
     generalize ((w5.setCell ⟨w3.heap.size, 0, none⟩ (.bool b2)).setCell ⟨w3.heap.size, 1, none⟩ (.slice R5 n2 c5)) = W5 at *
     replace m1 := hmg _ _ _ m1
     replace m5 := hmg _ _ _ m5
     replace a0 := hoth _ _ _ (by omega) a0
     replace a1 := hoth _ _ _ (by omega) a1
     replace q0 := hoth _ _ _ (by omega) q0
     replace q1 := hoth _ _ _ (by omega) q1
     replace q2 := hoth _ _ _ (by omega) q2
     replace q3 := hoth _ _ _ (by omega) q3
     replace z1 := hzn _ z1
     replace HB := hbel _ _ (by omega) HB
     have f_z1 := z1.fr
     have lt_a := cell_lt a0
     have lt_v := cell_lt v0
     have lt_q := cell_lt q0
     clear hoth hmg hzn hbel k0 k1 zk
     go_wp2_with fail
     refine (HN.out _ _ _ _ _ m1 m5).mono ?_
     rintro e w6 ⟨R6, c6, Q6, d6, rfl, m6, m6b, h6⟩
     have hv_ : Below W5.heap.size W5 w6 := Below.trans (b := _) (by repeat (first | assumption | exact Bv _ _ | refine Ba ?_ (by simp; try omega) _ | refine Bd ?_ | refine Bn ?_ _)) (h6.mono (by simp; try omega))
     replace q0 := keep_cell hv_ q0
     replace q1 := keep_cell hv_ q1
     replace q2 := keep_cell hv_ q2
     replace q3 := keep_cell hv_ q3
     have lt_q0 := cell_lt q0
     have lt_q1 := cell_lt q1
     have lt_q2 := cell_lt q2
     have lt_q3 := cell_lt q3
     replace z1 := z1.below hv_
     replace f_z1 := z1.fr
     replace HB := HB.trans (hv_.mono HB.size)
     clear hv_
     go_wp2
     refine bodyPost_ret (v := .tuple #[.agg #[.bool bq, .slice R6 kq c6, .bool false, .slice Q6 lq d6], .int .i64 err]) ?_ rfl ?_
     ·simp [results, Tryz.results25, go_sem, q0, q1, q2, q3]
     ·obtain ⟨j1_, j2_, j3_⟩ := fin_fr m6 m6b HB (by omega) q0 q1 q2 q3 (.bool bq) (.slice R6 kq c6) (.bool false) (.slice Q6 lq d6)
      exact GF.r ⟨R6, c6, Q6, d6, rfl, j1_, j2_, j3_⟩ IQ.out
    ·rw [if_pos he2]
     clear I1 I2 Io fp1 fp2
     go_enter Tryz.func25, Tryz.ntmps25
     go_wp2_with fail
     refine enterF (P := fun u => Calls _ _ _ u _) ?_
     intro u HB q0 q1 q2 q3 z1 hsz
     clear hsz
     have f_z1 := z1.fr
     have lt_q0 := cell_lt q0
     refine (HC.out _ HB).mono ?_
     rintro e w1 ⟨rfl, h1⟩
     have hv_ : Below u.heap.size u w1 := Below.trans (b := _) (by repeat (first | assumption | exact Bv _ _ | refine Ba ?_ (by simp; try omega) _ | refine Bd ?_ | refine Bn ?_ _)) (h1.mono (by simp; try omega))
     replace q0 := keep_cell hv_ q0
     replace q1 := keep_cell hv_ q1
     replace q2 := keep_cell hv_ q2
     replace q3 := keep_cell hv_ q3
     have lt_q0 := cell_lt q0
     have lt_q1 := cell_lt q1
     have lt_q2 := cell_lt q2
     have lt_q3 := cell_lt q3
     replace z1 := z1.below hv_
     replace f_z1 := z1.fr
     replace HB := HB.trans (hv_.mono HB.size)
     clear hv_
     go_wp2_with fail
     refine (H1.out _).mono ?_
     rintro e w2 ⟨R1, c1, rfl, m1, h2⟩
     have hv_ : Below w1.heap.size w1 w2 := Below.trans (b := _) (by repeat (first | assumption | exact Bv _ _ | refine Ba ?_ (by simp; try omega) _ | refine Bd ?_ | refine Bn ?_ _)) (h2.mono (by simp; try omega))
     replace q0 := keep_cell hv_ q0
     replace q1 := keep_cell hv_ q1
     replace q2 := keep_cell hv_ q2
     replace q3 := keep_cell hv_ q3
     have lt_q0 := cell_lt q0
     have lt_q1 := cell_lt q1
     have lt_q2 := cell_lt q2
     have lt_q3 := cell_lt q3
     replace z1 := z1.below hv_
     replace f_z1 := z1.fr
     replace HB := HB.trans (hv_.mono HB.size)
     clear hv_
     go_upto_region 3 with fail
     have a0 := at_alloc0 (W := w2) (a := .bool b1) (b := .slice R1 n1 c1) (t := 24) rfl
     have a1 := at_alloc1 (W := w2) (a := .bool b1) (b := .slice R1 n1 c1) (t := 24) rfl
     have hv_ : Below w2.heap.size w2 (w2.alloc (.cells #[.bool b1, .slice R1 n1 c1] 24)) := (Below.refl _ _).alloc (Nat.le_refl _) _
     generalize w2.alloc (.cells #[.bool b1, .slice R1 n1 c1] 24) = u2 at *
     replace m1 := m1.below hv_
     replace z1 := z1.below hv_
     replace q0 := keep_cell hv_ q0
     replace q1 := keep_cell hv_ q1
     replace q2 := keep_cell hv_ q2
     replace q3 := keep_cell hv_ q3
     replace HB := HB.trans (hv_.mono HB.size)
     clear hv_
     have lt_a := cell_lt a0
     have f_z1 := z1.fr
     go_wp2_with fail
     refine (HI1.out _).mono ?_
     rintro e w3 ⟨R3, c3, rfl, m3, h3⟩
     have hv_ : Below u2.heap.size u2 w3 := Below.trans (b := _) (by repeat (first | assumption | exact Bv _ _ | refine Ba ?_ (by simp; try omega) _ | refine Bd ?_ | refine Bn ?_ _)) (h3.mono (by simp; try omega))
     replace m1 := m1.below hv_
     replace a0 := keep_cell hv_ a0
     replace a1 := keep_cell hv_ a1
     replace q0 := keep_cell hv_ q0
     replace q1 := keep_cell hv_ q1
     replace q2 := keep_cell hv_ q2
     replace q3 := keep_cell hv_ q3
     have lt_a0 := cell_lt a0
     have lt_a1 := cell_lt a1
     have lt_q0 := cell_lt q0
     have lt_q1 := cell_lt q1
     have lt_q2 := cell_lt q2
     have lt_q3 := cell_lt q3
     replace z1 := z1.below hv_
     replace f_z1 := z1.fr
     replace HB := HB.trans (hv_.mono HB.size)
     clear hv_
     go_upto_region 6 with fail
     have k0 := at_alloc0 (W := w3) (a := .bool bo) (b := .slice R3 no c3) (t := 24) rfl
     have k1 := at_alloc1 (W := w3) (a := .bool bo) (b := .slice R3 no c3) (t := 24) rfl
     have zk : Zn (w3.alloc (.cells #[.bool bo, .slice R3 no c3] 24)) w3.heap.size := Zn.new rfl
     have hv_ : Below w3.heap.size w3 (w3.alloc (.cells #[.bool bo, .slice R3 no c3] 24)) := (Below.refl _ _).alloc (Nat.le_refl _) _
     generalize w3.alloc (.cells #[.bool bo, .slice R3 no c3] 24) = u3 at *
     replace m1 := m1.below hv_
     replace m3 := m3.below hv_
     replace z1 := z1.below hv_
     replace a0 := keep_cell hv_ a0
     replace a1 := keep_cell hv_ a1
     replace q0 := keep_cell hv_ q0
     replace q1 := keep_cell hv_ q1
     replace q2 := keep_cell hv_ q2
     replace q3 := keep_cell hv_ q3
     replace HB := HB.trans (hv_.mono HB.size)
     have f_zk := zk.fr
     clear hv_
     have lt_a := cell_lt a0
     have lt_k := cell_lt k0
     have f_z1 := z1.fr
     go_wp2_with fail
     refine (HP.out _).mono ?_
     rintro e w4 ⟨rfl, hw_⟩
     obtain rfl := hw_.symm
     go_wp2_with fail
     refine (H2.out _).mono ?_
     rintro e w5 ⟨R5, c5, rfl, m5, h5⟩
     have hv_ : Below u3.heap.size u3 w5 := Below.trans (b := _) (by repeat (first | assumption | exact Bv _ _ | refine Ba ?_ (by simp; try omega) _ | refine Bd ?_ | refine Bn ?_ _)) (h5.mono (by simp; try omega))
     replace m1 := m1.below hv_
     replace a0 := keep_cell hv_ a0
     replace a1 := keep_cell hv_ a1
     replace k0 := keep_cell hv_ k0
     replace k1 := keep_cell hv_ k1
     replace q0 := keep_cell hv_ q0
     replace q1 := keep_cell hv_ q1
     replace q2 := keep_cell hv_ q2
     replace q3 := keep_cell hv_ q3
     have lt_a0 := cell_lt a0
     have lt_a1 := cell_lt a1
     have lt_k0 := cell_lt k0
     have lt_k1 := cell_lt k1
     have lt_q0 := cell_lt q0
     have lt_q1 := cell_lt q1
     have lt_q2 := cell_lt q2
     have lt_q3 := cell_lt q3
     replace z1 := z1.below hv_
     replace zk := zk.below hv_
     replace f_z1 := z1.fr
     replace f_zk := zk.fr
     replace HB := HB.trans (hv_.mono HB.size)
     clear hv_
     go_upto_region 10 with fail
     obtain ⟨v0, v1, hoth, hmg, hzn, hbel⟩ := setI2F (u0 := .bool b2) (u1 := .slice R5 n2 c5) k0 k1
     generalize ((w5.setCell ⟨w3.heap.size, 0, none⟩ (.bool b2)).setCell ⟨w3.heap.size, 1, none⟩ (.slice R5 n2 c5)) = W5 at *
     replace m1 := hmg _ _ _ m1
     replace m5 := hmg _ _ _ m5
     replace a0 := hoth _ _ _ (by omega) a0
     replace a1 := hoth _ _ _ (by omega) a1
     replace q0 := hoth _ _ _ (by omega) q0
     replace q1 := hoth _ _ _ (by omega) q1
     replace q2 := hoth _ _ _ (by omega) q2
     replace q3 := hoth _ _ _ (by omega) q3
     replace z1 := hzn _ z1
     replace HB := hbel _ _ (by omega) HB
     have f_z1 := z1.fr
     have lt_a := cell_lt a0
     have lt_v := cell_lt v0
     have lt_q := cell_lt q0
     clear hoth hmg hzn hbel k0 k1 zk
     go_wp2
     refine bodyPost_ret (v := .tuple #[.agg #[.bool false, .slice none 0 0, .bool false, .slice none 0 0], .int .i64 err2]) ?_ rfl ?_
     ·simp [results, Tryz.results25, go_sem, q0, q1, q2, q3]
     ·exact retFE_set err2 HB (by omega) q0 q1 q2 q3
   ·rw [if_pos rfl]
    clear I1 I2 Io fp1 fp2 H2
    go_enter Tryz.func25, Tryz.ntmps25
    go_wp2_with fail
    refine enterF (P := fun u => Calls _ _ _ u _) ?_
    intro u HB q0 q1 q2 q3 z1 hsz
    clear hsz
    have f_z1 := z1.fr
    have lt_q0 := cell_lt q0
    refine (HC.out _ HB).mono ?_
    rintro e w1 ⟨rfl, h1⟩
    have hv_ : Below u.heap.size u w1 := Below.trans (b := _) (by repeat (first | assumption | exact Bv _ _ | refine Ba ?_ (by simp; try omega) _ | refine Bd ?_ | refine Bn ?_ _)) (h1.mono (by simp; try omega))
    replace q0 := keep_cell hv_ q0
    replace q1 := keep_cell hv_ q1
    replace q2 := keep_cell hv_ q2
    replace q3 := keep_cell hv_ q3
    have lt_q0 := cell_lt q0
    have lt_q1 := cell_lt q1
    have lt_q2 := cell_lt q2
    have lt_q3 := cell_lt q3
    replace z1 := z1.below hv_
    replace f_z1 := z1.fr
    replace HB := HB.trans (hv_.mono HB.size)
    clear hv_
    go_wp2_with fail
    refine (H1.out _).mono ?_
    rintro e w2 ⟨R1, c1, rfl, m1, h2⟩
    have hv_ : Below w1.heap.size w1 w2 := Below.trans (b := _) (by repeat (first | assumption | exact Bv _ _ | refine Ba ?_ (by simp; try omega) _ | refine Bd ?_ | refine Bn ?_ _)) (h2.mono (by simp; try omega))
    replace q0 := keep_cell hv_ q0
    replace q1 := keep_cell hv_ q1
    replace q2 := keep_cell hv_ q2
    replace q3 := keep_cell hv_ q3
    have lt_q0 := cell_lt q0
    have lt_q1 := cell_lt q1
    have lt_q2 := cell_lt q2
    have lt_q3 := cell_lt q3
    replace z1 := z1.below hv_
    replace f_z1 := z1.fr
    replace HB := HB.trans (hv_.mono HB.size)
    clear hv_
    go_upto_region 3 with fail
    have a0 := at_alloc0 (W := w2) (a := .bool b1) (b := .slice R1 n1 c1) (t := 24) rfl
    have a1 := at_alloc1 (W := w2) (a := .bool b1) (b := .slice R1 n1 c1) (t := 24) rfl
    have hv_ : Below w2.heap.size w2 (w2.alloc (.cells #[.bool b1, .slice R1 n1 c1] 24)) := (Below.refl _ _).alloc (Nat.le_refl _) _
    generalize w2.alloc (.cells #[.bool b1, .slice R1 n1 c1] 24) = u2 at *
    replace m1 := m1.below hv_
    replace z1 := z1.below hv_
    replace q0 := keep_cell hv_ q0
    replace q1 := keep_cell hv_ q1
    replace q2 := keep_cell hv_ q2
    replace q3 := keep_cell hv_ q3
    replace HB := HB.trans (hv_.mono HB.size)
    clear hv_
    have lt_a := cell_lt a0
    have f_z1 := z1.fr
    go_wp2_with fail
    refine (HI1.out _).mono ?_
    rintro e w3 ⟨R3, c3, rfl, m3, h3⟩
    have hv_ : Below u2.heap.size u2 w3 := Below.trans (b := _) (by repeat (first | assumption | exact Bv _ _ | refine Ba ?_ (by simp; try omega) _ | refine Bd ?_ | refine Bn ?_ _)) (h3.mono (by simp; try omega))
    replace m1 := m1.below hv_
    replace a0 := keep_cell hv_ a0
    replace a1 := keep_cell hv_ a1
    replace q0 := keep_cell hv_ q0
    replace q1 := keep_cell hv_ q1
    replace q2 := keep_cell hv_ q2
    replace q3 := keep_cell hv_ q3
    have lt_a0 := cell_lt a0
    have lt_a1 := cell_lt a1
    have lt_q0 := cell_lt q0
    have lt_q1 := cell_lt q1
    have lt_q2 := cell_lt q2
    have lt_q3 := cell_lt q3
    replace z1 := z1.below hv_
    replace f_z1 := z1.fr
    replace HB := HB.trans (hv_.mono HB.size)
    clear hv_
    go_upto_region 6 with fail
    have k0 := at_alloc0 (W := w3) (a := .bool bo) (b := .slice R3 no c3) (t := 24) rfl
    have k1 := at_alloc1 (W := w3) (a := .bool bo) (b := .slice R3 no c3) (t := 24) rfl
    have zk : Zn (w3.alloc (.cells #[.bool bo, .slice R3 no c3] 24)) w3.heap.size := Zn.new rfl
    have hv_ : Below w3.heap.size w3 (w3.alloc (.cells #[.bool bo, .slice R3 no c3] 24)) := (Below.refl _ _).alloc (Nat.le_refl _) _
    generalize w3.alloc (.cells #[.bool bo, .slice R3 no c3] 24) = u3 at *
    replace m1 := m1.below hv_
    replace m3 := m3.below hv_
    replace z1 := z1.below hv_
    replace a0 := keep_cell hv_ a0
    replace a1 := keep_cell hv_ a1
    replace q0 := keep_cell hv_ q0
    replace q1 := keep_cell hv_ q1
    replace q2 := keep_cell hv_ q2
    replace q3 := keep_cell hv_ q3
    replace HB := HB.trans (hv_.mono HB.size)
    have f_zk := zk.fr
    clear hv_
    have lt_a := cell_lt a0
    have lt_k := cell_lt k0
    have f_z1 := z1.fr
    go_wp2_with fail
    refine (HP.out _).mono ?_
    rintro e w4 ⟨rfl, hw_⟩
    obtain rfl := hw_.symm
    go_wp2
    refine bodyPost_ret (v := .tuple #[.agg #[.bool false, .slice none 0 0, .bool false, .slice none 0 0], .int .i64 9]) ?_ rfl ?_
    ·simp [results, Tryz.results25, go_sem, q0, q1, q2, q3]
    ·exact retFE_set 9 HB (by omega) q0 q1 q2 q3
 ·rw [if_pos he1]
  clear HI1 H2 HP I1 I2 Io fp1 fp2
  go_enter Tryz.func25, Tryz.ntmps25
  go_wp2_with fail
  refine enterF (P := fun u => Calls _ _ _ u _) ?_
  intro u HB q0 q1 q2 q3 z1 hsz
  clear hsz
  have f_z1 := z1.fr
  have lt_q0 := cell_lt q0
  refine (HC.out _ HB).mono ?_
  rintro e w1 ⟨rfl, h1⟩
  have hv_ : Below u.heap.size u w1 := Below.trans (b := _) (by repeat (first | assumption | exact Bv _ _ | refine Ba ?_ (by simp; try omega) _ | refine Bd ?_ | refine Bn ?_ _)) (h1.mono (by simp; try omega))
  replace q0 := keep_cell hv_ q0
  replace q1 := keep_cell hv_ q1
  replace q2 := keep_cell hv_ q2
  replace q3 := keep_cell hv_ q3
  have lt_q0 := cell_lt q0
  have lt_q1 := cell_lt q1
  have lt_q2 := cell_lt q2
  have lt_q3 := cell_lt q3
  replace z1 := z1.below hv_
  replace f_z1 := z1.fr
  replace HB := HB.trans (hv_.mono HB.size)
  clear hv_
  go_wp2_with fail
  refine (H1.out _).mono ?_
  rintro e w2 ⟨R1, c1, rfl, m1, h2⟩
  have hv_ : Below w1.heap.size w1 w2 := Below.trans (b := _) (by repeat (first | assumption | exact Bv _ _ | refine Ba ?_ (by simp; try omega) _ | refine Bd ?_ | refine Bn ?_ _)) (h2.mono (by simp; try omega))
  replace q0 := keep_cell hv_ q0
  replace q1 := keep_cell hv_ q1
  replace q2 := keep_cell hv_ q2
  replace q3 := keep_cell hv_ q3
  have lt_q0 := cell_lt q0
  have lt_q1 := cell_lt q1
  have lt_q2 := cell_lt q2
  have lt_q3 := cell_lt q3
  replace z1 := z1.below hv_
  replace f_z1 := z1.fr
  replace HB := HB.trans (hv_.mono HB.size)
  clear hv_
  go_upto_region 3 with fail
  have a0 := at_alloc0 (W := w2) (a := .bool b1) (b := .slice R1 n1 c1) (t := 24) rfl
  have a1 := at_alloc1 (W := w2) (a := .bool b1) (b := .slice R1 n1 c1) (t := 24) rfl
  have hv_ : Below w2.heap.size w2 (w2.alloc (.cells #[.bool b1, .slice R1 n1 c1] 24)) := (Below.refl _ _).alloc (Nat.le_refl _) _
  generalize w2.alloc (.cells #[.bool b1, .slice R1 n1 c1] 24) = u2 at *
  replace m1 := m1.below hv_
  replace z1 := z1.below hv_
  replace q0 := keep_cell hv_ q0
  replace q1 := keep_cell hv_ q1
  replace q2 := keep_cell hv_ q2
  replace q3 := keep_cell hv_ q3
  replace HB := HB.trans (hv_.mono HB.size)
  clear hv_
  have lt_a := cell_lt a0
  have f_z1 := z1.fr
  go_wp2
  refine bodyPost_ret (v := .tuple #[.agg #[.bool false, .slice none 0 0, .bool false, .slice none 0 0], .int .i64 err1]) ?_ rfl ?_
  ·simp [results, Tryz.results25, go_sem, q0, q1, q2, q3]
  ·exact retFE_set err1 HB (by omega) q0 q1 q2 q3
end Go.Proofs.YtfdmlfpldgobjaaGreatDoor
