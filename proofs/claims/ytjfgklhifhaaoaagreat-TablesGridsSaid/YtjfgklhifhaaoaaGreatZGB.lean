/- Tables: the places that a line covers, of the reference. Conditions: bands and lines up to 4096. -/
import Derived.Test.YtjfgklhifhaaoaaGreatZGA
import Derived.Deep.RegionHeld3
set_option linter.unusedVariables false
set_option linter.unusedSimpArgs false
namespace Go.Proofs.YtjfgklhifhaaoaaGreat
open Go.RowKit
theorem cov_n1 {r : Ru} {cross : List (Int × Int)} {cv : List Bool} (h : covA r cross < 0 ∨ covB r cross ≤ covA r cross) : covE r cross cv = none := by unfold covE; rw [if_pos h]
theorem cov_n2 {r : Ru} {cross : List (Int × Int)} {cv : List Bool} {a b : Nat} (ha : covA r cross = (a : Int)) (hb : covB r cross = (b : Int)) (h : a < b) {j : Nat} (h1 : a ≤ j) (h2 : j < b) (hj : cv.getD j false = true) : covE r cross cv = none := by
 unfold covE
 rw [if_neg (by omega), if_pos]
 unfold anyR
 rw [List.any_eq_true]
 exact ⟨j, by rw [List.mem_range'_1]; omega, hj⟩
theorem cov_y {r : Ru} {cross : List (Int × Int)} {cv : List Bool} {a b : Nat} (ha : covA r cross = (a : Int)) (hb : covB r cross = (b : Int)) (h : a < b) (hj : ∀ j, a ≤ j → j < b → cv.getD j false = false) : covE r cross cv = some (setR cv a (b - a)) := by
 unfold covE
 rw [if_neg (by omega), if_neg]
 ·rw [show (covA r cross).toNat = a by omega, show (covB r cross - covA r cross).toNat = b - a by omega]
 ·unfold anyR
  rw [Bool.not_eq_true, List.any_eq_false]
  intro j hm
  rw [List.mem_range'_1] at hm
  rw [hj j (by omega) (by omega)]; simp
/-- whether a line fits, and what is covered then -/
def RetCv (w : World) (g : Nat) (q : Option (List Bool)) (e : Ending) (w' : World) : Prop :=
 (q = none ∧ e = .returned (.bool false) ∧ w.grownBy w' (some g)) ∨ ∃ d, q = some d ∧ e = .returned (.bool true) ∧ PxR w g d w'
set_option maxRecDepth 100000 in
set_option maxHeartbeats 8000000 in
theorem RCov_g (r : Ru) (cross : List (Int × Int)) (A : Option Addr) (c : Nat) (cv : List Bool) (g n q : Nat) {w : World} (hc : PtK.Rd w A c cross) (hcv : cv.length = n) (hn : n + 1 = cross.length) (hP : PxA w g cv) (hb : ∀ x ∈ cross, (0 ≤ x.1 ∧ x.1 ≤ 4096) ∧ 1 ≤ x.2 ∧ x.2 ≤ 4096) (hN : cross.length ≤ 100000) :
  Calls Tryz.prog 65 #[.agg #[.bool r.v, .int .i64 r.a, .int .i64 r.t, .int .i64 r.f, .int .i64 r.o], .slice A cross.length c, .slice (some ⟨g, 0, none⟩) n q] w (RetCv w g (covE r cross cv)) := by
 obtain ⟨R, hR⟩ : ∃ q, covE r cross cv = q := ⟨_, rfl⟩
 have h1 := hid fun (h : covA r cross < 0 ∨ covB r cross ≤ covA r cross) => hR.symm.trans (cov_n1 h)
 have h2 := hid fun (a b : Nat) (ha : covA r cross = (a : Int)) (hb : covB r cross = (b : Int)) (h : a < b) (j : Nat) (h1 : a ≤ j) (h2 : j < b) (hj : cv.getD j false = true) => hR.symm.trans (cov_n2 ha hb h h1 h2 hj)
 have h3 := hid fun (a b : Nat) (ha : covA r cross = (a : Int)) (hb : covB r cross = (b : Int)) (h : a < b) (hj : ∀ j, a ≤ j → j < b → cv.getD j false = false) => hR.symm.trans (cov_y ha hb h hj)
 obtain ⟨m, hm⟩ : ∃ n, cross.length = n := ⟨_, rfl⟩
 have hM := hid fun (j : Nat) (hj : j < m) (W : World) (hb : Below w.heap.size w W) => (hc.below hb).at_ (j := j) (by omega)
 have cc := Nat.le_trans hc.cap hc.max
 have hbb := hid fun (i : Nat) (h : i < cross.length) => hb _ (List.getElem_mem h)
 obtain ⟨pa, hpa⟩ : ∃ f, (fun b : Int × Int => decide (b.1 = r.f)) = f := ⟨_, rfl⟩
 obtain ⟨pb, hpb⟩ : ∃ f, (fun b : Int × Int => decide (b.1 + b.2 = r.o)) = f := ⟨_, rfl⟩
 have eA : covA r cross = lstK pa cross m := by rw [← hpa, ← hm]; rfl
 have eB : covB r cross = lstK pb cross m := by rw [← hpb, ← hm]; rfl
 rw [eA, eB] at h1 h2 h3
 have ay := hid fun (i : Nat) (h : i < cross.length) (hx : cross[i].1 = r.f) => lstK_yes (p := pa) h (by rw [← hpa]; exact decide_eq_true hx)
 have an := hid fun (i : Nat) (h : i < cross.length) (hx : ¬ cross[i].1 = r.f) => lstK_no (p := pa) h (by rw [← hpa]; exact decide_eq_false hx)
 have by_ := hid fun (i : Nat) (h : i < cross.length) (hx : cross[i].1 + cross[i].2 = r.o) => lstK_yes (p := pb) h (by rw [← hpb]; exact decide_eq_true hx)
 have bn := hid fun (i : Nat) (h : i < cross.length) (hx : ¬ cross[i].1 + cross[i].2 = r.o) => lstK_no (p := pb) h (by rw [← hpb]; exact decide_eq_false hx)
 have a0 : lstK pa cross 0 = -1 := rfl
 have b0 : lstK pb cross 0 = -1 := rfl
 have ab := hid (lstK_lt pa cross m)
 have bb := hid (lstK_lt pb cross m)
 rw [hR]
 rw [hm] at cc hn hN ⊢
 replace hm := hid hm
 generalize lstK pa cross = La at *
 generalize lstK pb cross = Lb at *
 clear hpa hpb eA eB hb hc hR
 obtain ⟨rv, ra, rt, rf, ro⟩ := r
 dsimp only at *
 have hglt := hP.z.lt
 go_enter Tryz.func65, Tryz.ntmps65
 go_upto_region 1 with fail
 refine enterR (P := fun u => Code.wp _ _ _ _ u) (c := [.bool rv, .int .i64 ra, .int .i64 rt, .int .i64 rf, .int .i64 ro]) ?_
 intro u HB r0 zn0 hsz
 have c3 : u.cell? ⟨w.heap.size, 3, none⟩ = some (.int .i64 rf) := r0 3 _ rfl
 have c4 : u.cell? ⟨w.heap.size, 4, none⟩ = some (.int .i64 ro) := r0 4 _ rfl
 have hC := hid fun (W : World) (hb : Below u.heap.size u W) => And.intro (keep_cell hb c3) (keep_cell hb c4)
 clear r0 zn0 hsz c3 c4
 go_wp2
 go_loopw [9, 7, 8] (fun s9 s7 s8 wr => ∃ i : Nat, s9 = .int .i64 i ∧ i ≤ m ∧ s7 = .int .i64 (La i) ∧ s8 = .int .i64 (Lb i) ∧ Below u.heap.size u wr) (fun s9 _ _ _ => m - (intOf s9).toNat)
 case atStart => exact ⟨0, rfl, by omega, by rw [a0], by rw [b0], Below.refl _ _⟩
 case round =>
  clear a0 b0
  obtain ⟨i, rfl, hi, rfl, rfl, hbu⟩ := hrel
  by_cases hin : i < m
  ·have hii : (i : Int) < (m : Int) := by omega
   have hil : i < cross.length := by have := hm.out; omega
   obtain ⟨b, o, hA3, hcc⟩ := hM.out i hin wr (bel_step HB hbu)
   have e0 : wr.cell? ⟨b, o + i * 2, none⟩ = some (.int .i64 cross[i].1) := hcc 0 _ rfl
   have e1 : wr.cell? ⟨b, o + i * 2 + 1, none⟩ = some (.int .i64 cross[i].2) := hcc 1 _ rfl
   obtain ⟨r3, r4⟩ := hC.out wr hbu
   have ay1 := hid (ay.out i hil)
   have an1 := hid (an.out i hil)
   have by1 := hid (by_.out i hil)
   have bn1 := hid (bn.out i hil)
   have hb1 := hbb.out i hil
   subst hA3
   clear hcc
   generalize cross[i] = x at *
   obtain ⟨x1, x2⟩ := x
   dsimp only at e0 e1 ay1 an1 by1 bn1 hb1
   have hws : IntKind.i64.wrap (x1 + x2) = x1 + x2 := by rw [IntKind.wrap_i64]; omega
   clear hb1 hM h1 h2 h3 ay an by_ bn hbb ab bb
   go_upto_region 5 with fail
   go_quiet (fail)
   have hv_ : Below wr.heap.size wr (wr.drewN nq) := below_drewN (Below.refl _ _) _
   generalize wr.drewN nq = w2 at hv_ ⊢
   replace hbu := bel_step hbu hv_
   replace e0 := keep_cell hv_ e0
   replace e1 := keep_cell hv_ e1
   replace r3 := keep_cell hv_ r3
   replace r4 := keep_cell hv_ r4
   obtain ⟨q1, hq1⟩ : ∃ q, x1 + x2 = q := ⟨_, rfl⟩
   rw [hq1] at by1 bn1
   have hws2 : IntKind.i64.wrap (x1 + x2) = q1 := hws.trans hq1
   clear hws hq1
   by_cases g1 : x1 = rf
   ·have g1b : (x1 == rf) = true := beq_iff_eq.2 g1
    have l1 := ay1.out g1
    clear g1 ay1 an1
    by_cases g2 : q1 = ro
    ·have g2b : (q1 == ro) = true := beq_iff_eq.2 g2
     have l2 := by1.out g2
     clear g2 by1 bn1
     go_upto_region 7 with fail
     go_quiet (fail)
     have hv2_ : Below w2.heap.size w2 (w2.drewN nq) := below_drewN (Below.refl _ _) _
     generalize w2.drewN nq = w3 at hv2_ ⊢
     replace hbu := bel_step hbu hv2_
     clear hv_ hv2_ r3 r4
     go_wp2
     go_roundw
     case rel => exact ⟨i + 1, by go_num, by omega, by rw [l1], by rw [l2], hbu⟩
     case measure => simp [intOf]; omega
    ·have g2b : (q1 == ro) = false := beq_eq_false_iff_ne.2 g2
     have l2 := bn1.out g2
     clear g2 by1 bn1
     go_upto_region 7 with fail
     go_quiet (fail)
     have hv2_ : Below w2.heap.size w2 (w2.drewN nq) := below_drewN (Below.refl _ _) _
     generalize w2.drewN nq = w3 at hv2_ ⊢
     replace hbu := bel_step hbu hv2_
     clear hv_ hv2_ r3 r4
     go_wp2
     go_roundw
     case rel => exact ⟨i + 1, by go_num, by omega, by rw [l1], by rw [l2], hbu⟩
     case measure => simp [intOf]; omega
   ·have g1b : (x1 == rf) = false := beq_eq_false_iff_ne.2 g1
    have l1 := an1.out g1
    clear g1 ay1 an1
    by_cases g2 : q1 = ro
    ·have g2b : (q1 == ro) = true := beq_iff_eq.2 g2
     have l2 := by1.out g2
     clear g2 by1 bn1
     go_upto_region 7 with fail
     go_quiet (fail)
     have hv2_ : Below w2.heap.size w2 (w2.drewN nq) := below_drewN (Below.refl _ _) _
     generalize w2.drewN nq = w3 at hv2_ ⊢
     replace hbu := bel_step hbu hv2_
     clear hv_ hv2_ r3 r4
     go_wp2
     go_roundw
     case rel => exact ⟨i + 1, by go_num, by omega, by rw [l1], by rw [l2], hbu⟩
     case measure => simp [intOf]; omega
    ·have g2b : (q1 == ro) = false := beq_eq_false_iff_ne.2 g2
     have l2 := bn1.out g2
     clear g2 by1 bn1
     go_upto_region 7 with fail
     go_quiet (fail)
     have hv2_ : Below w2.heap.size w2 (w2.drewN nq) := below_drewN (Below.refl _ _) _
     generalize w2.drewN nq = w3 at hv2_ ⊢
     replace hbu := bel_step hbu hv2_
     clear hv_ hv2_ r3 r4
     go_wp2
     go_roundw
     case rel => exact ⟨i + 1, by go_num, by omega, by rw [l1], by rw [l2], hbu⟩
     case measure => simp [intOf]; omega
  ·obtain rfl : i = m := by omega
   have hii : ¬ (i : Int) < (i : Int) := by omega
   have ab1 := ab.out
   have bb1 := bb.out
   have hPw := (hP.below HB).below hbu
   have HBw := bel_step HB hbu
   clear hM ay an by_ bn hbb ab bb hC
   generalize La i = av at *
   generalize Lb i = bv' at *
   by_cases g1 : av < 0
   ·have hr := h1.out (Or.inl g1)
    clear h1 h2 h3 ab1 bb1 hPw hP
    go_wp2
    go_ret
    exact Or.inl ⟨(by first | exact hr | rfl), rfl, gb_below HBw⟩
   ·by_cases g2 : bv' ≤ av
    ·have hr := h1.out (Or.inr g2)
     clear h1 h2 h3 ab1 bb1 hPw hP
     go_wp2
     go_ret
     exact Or.inl ⟨(by first | exact hr | rfl), rfl, gb_below HBw⟩
    ·obtain ⟨a, rfl⟩ := Int.eq_ofNat_of_zero_le (show 0 ≤ av by omega)
     obtain ⟨bq, rfl⟩ := Int.eq_ofNat_of_zero_le (show 0 ≤ bv' by omega)
     have hlt : a < bq := by omega
     have hbn : bq ≤ n := by omega
     have h2' := hid (h2.out a bq rfl rfl hlt)
     have h3' := hid (h3.out a bq rfl rfl hlt)
     have hP0 : PxR wr g (setR cv a 0) wr := PxR.refl (by rw [setR_zero]; exact hPw)
     obtain ⟨w1, hw1⟩ : ∃ x, x = wr := ⟨_, rfl⟩
     subst hw1
     have hcvl := hid hcv
     clear h1 h2 h3 ab1 bb1 hPw hcv
     go_wp2
     go_loopw [10] (fun s10 wz => ∃ j : Nat, s10 = .int .i64 j ∧ a ≤ j ∧ j ≤ bq ∧ Hid (∀ x, a ≤ x → x < j → cv.getD x false = false) ∧ PxR w1 g (setR cv a (j - a)) wz) (fun s10 _ => bq - (intOf s10).toNat)
     case atStart => exact ⟨a, rfl, Nat.le_refl _, by omega, fun x h1 h2 => by omega, by rw [Nat.sub_self]; exact hP0⟩
     case round =>
      clear hP0
      obtain ⟨j, rfl, hj1, hj2, hF, hRz⟩ := hrel
      by_cases hjb : j < bq
      ·have hji : (j : Int) < (bq : Int) := by omega
       have hjn : j < n := by omega
       have hjni : (j : Int) < (n : Int) := by omega
       have hjl : j < (setR cv a (j - a)).length := by rw [setR_len, hcvl.out]; exact hjn
       have hcell := hRz.a.cell (j := j) hjl
       have hval := hid (show cv.getD j false = (setR cv a (j - a))[j]'hjl from by
        have h := setR_at cv a (j - a) j (by rw [hcvl.out]; exact hjn)
        rw [List.getD_eq_getElem?_getD, List.getElem?_eq_getElem hjl] at h
        rw [show decide (a ≤ j ∧ j < a + (j - a)) = false from decide_eq_false (by omega), Bool.false_or] at h
        exact h.symm)
       have hset := hid (hRz.set (j := j) hjl true)
       rw [show (setR cv a (j - a)).set j true = setR cv a (j + 1 - a) from by
        have := setR_succ cv a (j - a)
        rw [show a + (j - a) = j by omega, show j - a + 1 = j + 1 - a by omega] at this
        exact this] at hset
       have hfz := hRz.a.z.fr
       generalize (setR cv a (j - a))[j]'hjl = t at *
       cases t
       ·have hF2 := hid fun (x : Nat) (h1 : a ≤ x) (h2 : x < j + 1) => (show cv.getD x false = false from by
         by_cases e : x = j
         ·rw [e]; exact hval.out
         ·exact hF.out x h1 (by omega))
        clear hF hval hRz h2' h3'
        go_wp2
        go_roundw
        case rel => exact ⟨j + 1, by go_num, by omega, by omega, hF2, hset.out⟩
        case measure => simp [intOf]; omega
       ·have hr := h2'.out j hj1 hjb hval.out
        have hgb := (gb_below HBw).trans hRz.gb
        clear hF hval hRz h2' h3' hset
        go_wp2
        go_ret
        exact Or.inl ⟨(by first | exact hr | rfl), rfl, hgb⟩
      ·obtain rfl : j = bq := by omega
       have hji : ¬ (j : Int) < (j : Int) := by omega
       have hr := h3'.out hF.out
       have hfin := hid (PxR.step HBw hRz)
       clear hF hRz h2' h3'
       go_wp2
       go_ret
       exact Or.inr ⟨setR cv a (j - a), (by first | exact hr | rfl), rfl, hfin.out⟩
end Go.Proofs.YtjfgklhifhaaoaaGreat
/- Tables: the frame of the reference in memory: its box, its rows of rows. Conditions: none. -/
namespace Go.Proofs.YtjfgklhifhaaoaaGreat
open Go.RowKit
/-- rows of K pixels, told by their blocks -/
def SlK (K : Nat) : Knd Nat := ⟨85, 22, 1, 24, .slice none 0 0, fun g => [.slice (some ⟨g, 0, none⟩) K K]⟩
theorem SlKo (K : Nat) : (SlK K).Ok := ⟨Tryz.underlying85, by kernel_rfl, rfl, Nat.zero_lt_one, (show 24 ≤ 100 by omega), fun _ => rfl, fun _ v hv => by
 simp only [SlK, List.mem_cons, List.not_mem_nil, or_false] at hv
 repeat' (rcases hv with rfl | hv; rfl)⟩
/-- rows in memory -/
structure Rws (w : World) (gs : List Nat) (M : List (List Bool)) : Prop where
 len : gs.length = M.length
 px : ∀ k (h1 : k < gs.length) (h2 : k < M.length), PxA w gs[k] M[k]
theorem Rws.below {w w' : World} {gs : List Nat} {M : List (List Bool)} (h : Rws w gs M) (hb : Below w.heap.size w w') : Rws w' gs M := ⟨h.len, fun k h1 h2 => (h.px k h1 h2).below hb⟩
theorem Rws.lt {w : World} {gs : List Nat} {M : List (List Bool)} (h : Rws w gs M) {g : Nat} (hg : g ∈ gs) : g < w.heap.size := by
 obtain ⟨k, hk, rfl⟩ := List.getElem_of_mem hg
 exact (h.px k hk (by rw [← h.len]; exact hk)).z.lt
theorem PxA.grown {w w' : World} {g : Nat} {d : List Bool} {row : Option Nat} (h : PxA w g d) (hg : w.grownBy w' row) (hne : row ≠ some g) : PxA w' g d :=
 ⟨fun j v hv => hg.cell (h.r j v hv) (fun e => hne e.symm), ⟨Nat.lt_of_lt_of_le h.z.lt hg.size, fun i => (World.frozen?_of_block (a := ⟨g, i, none⟩) (hg.block g h.z.lt (fun e => hne e.symm))).trans (h.z.fr i)⟩⟩
theorem PxA.off {w : World} {g k i : Nat} {d : List Bool} {u : Value} (h : PxA w g d) (hk : k ≠ g) : PxA (w.setCell ⟨k, i, none⟩ u) g d := ⟨fun j v hv => keep_set hk (h.r j v hv), h.z.set_⟩
theorem Rws.grown {w w' : World} {gs : List Nat} {M : List (List Bool)} {row : Option Nat} (h : Rws w gs M) (hg : w.grownBy w' row) (hne : ∀ g ∈ gs, row ≠ some g) : Rws w' gs M :=
 ⟨h.len, fun k h1 h2 => (h.px k h1 h2).grown hg (hne _ (List.getElem_mem h1))⟩
theorem Rws.off {w : World} {gs : List Nat} {M : List (List Bool)} {k i : Nat} {u : Value} (h : Rws w gs M) (hk : ∀ g ∈ gs, k ≠ g) : Rws (w.setCell ⟨k, i, none⟩ u) gs M :=
 ⟨h.len, fun j h1 h2 => (h.px j h1 h2).off (hk _ (List.getElem_mem h1))⟩
theorem Rws.snoc {w : World} {gs : List Nat} {M : List (List Bool)} {g : Nat} {d : List Bool} (h : Rws w gs M) (hp : PxA w g d) : Rws w (gs ++ [g]) (M ++ [d]) := by
 refine ⟨by simp [h.len], fun k h1 h2 => ?_⟩
 by_cases e : k < gs.length
 ·have e2 : k < M.length := by rw [← h.len]; exact e
  rw [List.getElem_append_left e, List.getElem_append_left e2]
  exact h.px k e e2
 ·have hl := h.len
  have h1' : k < gs.length + 1 := by simpa using h1
  obtain rfl : k = gs.length := by omega
  rw [List.getElem_append_right (Nat.le_refl _), List.getElem_append_right (by omega)]
  simp only [Nat.sub_self, List.getElem_cons_zero]
  have e3 : gs.length - M.length = 0 := by omega
  simp only [e3, List.getElem_cons_zero]
  exact hp
theorem Rws.put {w w' : World} {gs : List Nat} {M : List (List Bool)} {k : Nat} {d : List Bool} (h : Rws w gs M) (hk : k < gs.length) (hn : gs.Nodup) (hp : PxR w gs[k] d w') : Rws w' gs (M.set k d) := by
 refine ⟨by simpa using h.len, fun j h1 h2 => ?_⟩
 have h2' : j < M.length := by simpa using h2
 rw [List.getElem_set]
 by_cases e : k = j
 ·subst e
  rw [if_pos rfl]
  exact hp.a
 ·rw [if_neg e]
  refine (h.px j h1 h2').grown hp.gb fun e2 => e ?_
  injection e2 with e2
  exact (List.getElem_inj (h₀ := hk) (h₁ := h1) hn).1 e2
theorem own_off {α : Type} {X : Knd α} {w : World} {base g i : Nat} {v u : Value} {l : List α} (h : X.Own w base v l) (hg : g < base) : X.Own (w.setCell ⟨g, i, none⟩ u) base v l :=
 h.kept fun k hk => Below.heap_setCell w ⟨g, i, none⟩ u k (by have := (h.lt hk).1; simp; omega)
theorem own_other {α : Type} {X : Knd α} {w w' : World} {base : Nat} {v : Value} {l : List α} {row : Option Nat} (h : X.Own w base v l) (hg : w.grownBy w' row) (hne : v.ownBlock = none ∨ v.ownBlock ≠ row) : X.Own w' base v l := h.grown hg hne
/-- what an old block or a new row has grown -/
theorem gb_row {w0 w w' : World} {g : Nat} {row : Option Nat} (h : w0.grownBy w (some g)) (hg : w.grownBy w' row) (hr : ∀ k, row = some k → w0.heap.size ≤ k) : w0.grownBy w' (some g) :=
 ⟨hg.os.trans h.os, hg.tape.trans h.tape, hg.output.trans h.output, Nat.le_trans h.size hg.size, fun k hk hne => (hg.block k (Nat.lt_of_lt_of_le hk h.size) (fun e => by have := hr k e.symm; omega)).trans (h.block k hk hne)⟩
/-- a frame that is being made: its box, its rows; nothing that was there in w0 is changed but the box -/
structure Fm (w0 : World) (gf K1 K2 : Nat) (hv vv ov sv : Value) (go gs : List Nat) (O S : List (List Bool)) (w : World) : Prop where
 r : w.rangeAt gf 0 [hv, vv, ov, sv]
 z : Zn w gf
 oo : (SlK K1).Own w w0.heap.size ov go
 so : (SlK K2).Own w w0.heap.size sv gs
 op : Rws w go O
 sp : Rws w gs S
 gt : ∀ g ∈ go ++ gs, w0.heap.size ≤ g
 nd : (go ++ gs).Nodup
 no : ∀ g ∈ go ++ gs, ov.ownBlock ≠ some g
 ns : ∀ g ∈ go ++ gs, sv.ownBlock ≠ some g
 os : ov.ownBlock = none ∨ ov.ownBlock ≠ sv.ownBlock
 gb : w0.grownBy w (some gf)
 lt : gf < w0.heap.size
section
variable {w0 w w' : World} {gf K1 K2 : Nat} {hv vv ov sv : Value} {go gs : List Nat} {O S : List (List Bool)}
theorem Fm.below (h : Fm w0 gf K1 K2 hv vv ov sv go gs O S w) (hb : Below w.heap.size w w') : Fm w0 gf K1 K2 hv vv ov sv go gs O S w' :=
 ⟨rng_below h.r hb, h.z.below hb, h.oo.below hb, h.so.below hb, h.op.below hb, h.sp.below hb, h.gt, h.nd, h.no, h.ns, h.os, h.gb.trans (gb_below hb), h.lt⟩
theorem rng_f2 {w : World} {g : Nat} {a b c d x : Value} (h : w.rangeAt g 0 [a, b, c, d]) : (w.setCell ⟨g, 2, none⟩ x).rangeAt g 0 [a, b, x, d] := fun j v hv => by
 have h0 : w.cell? ⟨g, 0, none⟩ = some a := h 0 _ rfl
 have h1 : w.cell? ⟨g, 1, none⟩ = some b := h 1 _ rfl
 have h2 : w.cell? ⟨g, 2, none⟩ = some c := h 2 _ rfl
 have h3 : w.cell? ⟨g, 3, none⟩ = some d := h 3 _ rfl
 match j, hv with
 | 0, hv => obtain rfl := Option.some.inj hv; exact (cell_set_ne (by omega)).trans h0
 | 1, hv => obtain rfl := Option.some.inj hv; exact (cell_set_ne (by omega)).trans h1
 | 2, hv => obtain rfl := Option.some.inj hv; exact at_set h2
 | 3, hv => obtain rfl := Option.some.inj hv; exact (cell_set_ne (by omega)).trans h3
theorem rng_f3 {w : World} {g : Nat} {a b c d x : Value} (h : w.rangeAt g 0 [a, b, c, d]) : (w.setCell ⟨g, 3, none⟩ x).rangeAt g 0 [a, b, c, x] := fun j v hv => by
 have h0 : w.cell? ⟨g, 0, none⟩ = some a := h 0 _ rfl
 have h1 : w.cell? ⟨g, 1, none⟩ = some b := h 1 _ rfl
 have h2 : w.cell? ⟨g, 2, none⟩ = some c := h 2 _ rfl
 have h3 : w.cell? ⟨g, 3, none⟩ = some d := h 3 _ rfl
 match j, hv with
 | 0, hv => obtain rfl := Option.some.inj hv; exact (cell_set_ne (by omega)).trans h0
 | 1, hv => obtain rfl := Option.some.inj hv; exact (cell_set_ne (by omega)).trans h1
 | 2, hv => obtain rfl := Option.some.inj hv; exact (cell_set_ne (by omega)).trans h2
 | 3, hv => obtain rfl := Option.some.inj hv; exact at_set h3
/-- a row more in Over -/
theorem Fm.addO (h : Fm w0 gf K1 K2 hv vv ov sv go gs O S w) {g1 : Nat} {d : List Bool} {w2 w3 : World} {ov' : Value} (hb : Below w.heap.size w w2) (hp : PxA w2 g1 d) (hge : w.heap.size ≤ g1) (hon : (SlK K1).Own w3 w0.heap.size ov' (go ++ [g1])) (hgr : w2.grownBy w3 ov.ownBlock) (hat : ov'.ownBlock = ov.ownBlock ∨ ov'.ownBlock = some w2.heap.size) (hlt : g1 < w2.heap.size) :
  w3.rangeAt gf 0 [hv, vv, ov, sv] ∧ Fm w0 gf K1 K2 hv vv ov' sv (go ++ [g1]) gs (O ++ [d]) S (w3.setCell ⟨gf, 2, none⟩ ov') := by
 have hF := h.below hb
 have hne : ∀ k, ov.ownBlock = some k → w0.heap.size ≤ k := fun k e => (hF.oo.lt e).1
 have hgf := hF.lt
 have hogf : ∀ {k}, ov.ownBlock = some k → k ≠ gf := fun e e2 => by have := hne _ e; omega
 have hr : w3.rangeAt gf 0 [hv, vv, ov, sv] := fun j x hx => hgr.cell (hF.r j x hx) (fun e => hogf e.symm rfl)
 have hz : Zn w3 gf := ⟨Nat.lt_of_lt_of_le hF.z.lt hgr.size, fun i => (World.frozen?_of_block (a := ⟨gf, i, none⟩) (hgr.block gf hF.z.lt (fun e => hogf e.symm rfl))).trans (hF.z.fr i)⟩
 have hog : ∀ g ∈ go ++ gs, g < w.heap.size := fun g hg => by
  rcases List.mem_append.1 hg with hg | hg
  ·exact h.op.lt hg
  ·exact h.sp.lt hg
 have hown : ∀ k, ov.ownBlock = some k → k < w.heap.size := fun k e => (h.oo.lt e).2
 have hsw : ∀ k, sv.ownBlock = some k → k < w.heap.size := fun k e => (h.so.lt e).2
 have hng1 : ov.ownBlock ≠ some g1 := fun e => by have := hown _ e; omega
 have hsz := hb.size
 have hs0 := h.gb.size
 refine ⟨hr, rng_f2 hr, hz.set_, own_off hon hgf, own_off (own_other hF.so hgr ?_) hgf, ?_, ?_, ?_, ?_, ?_, ?_, ?_, (gb_row hF.gb hgr hne).trans gb_set, hgf⟩
 ·rcases hF.os with e | e
  ·cases hs : sv.ownBlock with
   | none => exact .inl rfl
   | some k => exact .inr (by rw [e]; simp)
  ·exact .inr fun e2 => e e2.symm
 ·refine Rws.off ((hF.op.grown hgr fun g hg => hF.no g (List.mem_append_left _ hg)).snoc (hp.grown hgr hng1)) fun g hg => ?_
  rcases List.mem_append.1 hg with hg | hg
  ·have := hF.gt g (List.mem_append_left _ hg); omega
  ·rw [List.mem_singleton] at hg; omega
 ·exact Rws.off (hF.sp.grown hgr fun g hg => hF.no g (List.mem_append_right _ hg)) fun g hg => by have := hF.gt g (List.mem_append_right _ hg); omega
 ·intro g hg
  rw [List.append_assoc, List.mem_append, List.mem_append, List.mem_singleton] at hg
  rcases hg with hg | hg | hg
  ·exact hF.gt g (List.mem_append_left _ hg)
  ·omega
  ·exact hF.gt g (List.mem_append_right _ hg)
 ·have hn := hF.nd
  rw [List.nodup_append] at hn ⊢
  obtain ⟨n1, n2, n3⟩ := hn
  refine ⟨?_, n2, ?_⟩
  ·rw [List.nodup_append]
   refine ⟨n1, by simp, ?_⟩
   intro a ha b hb e
   rw [List.mem_singleton] at hb
   have := hog a (List.mem_append_left _ ha)
   omega
  ·intro a ha b hb
   rcases List.mem_append.1 ha with ha | ha
   ·exact n3 a ha b hb
   ·rw [List.mem_singleton] at ha
    have := hog b (List.mem_append_right _ hb)
    omega
 ·intro g hg e
  rw [List.append_assoc, List.mem_append, List.mem_append, List.mem_singleton] at hg
  rcases hat with e2 | e2
  ·rw [e2] at e
   rcases hg with hg | hg | hg
   ·exact hF.no g (List.mem_append_left _ hg) e
   ·exact hng1 (by rw [e, hg])
   ·exact hF.no g (List.mem_append_right _ hg) e
  ·rw [e2] at e
   injection e with e
   rcases hg with hg | hg | hg
   ·have := hog g (List.mem_append_left _ hg); omega
   ·omega
   ·have := hog g (List.mem_append_right _ hg); omega
 ·intro g hg e
  rw [List.append_assoc, List.mem_append, List.mem_append, List.mem_singleton] at hg
  rcases hg with hg | hg | hg
  ·exact hF.ns g (List.mem_append_left _ hg) e
  ·have := hsw _ e; omega
  ·exact hF.ns g (List.mem_append_right _ hg) e
 ·rcases hat with e2 | e2
  ·rw [e2]; exact hF.os
  ·exact .inr fun e => by
    rw [e2] at e
    have := hsw _ e.symm
    omega
/-- a row more in Side -/
theorem Fm.addS (h : Fm w0 gf K1 K2 hv vv ov sv go gs O S w) {g1 : Nat} {d : List Bool} {w2 w3 : World} {sv' : Value} (hb : Below w.heap.size w w2) (hp : PxA w2 g1 d) (hge : w.heap.size ≤ g1) (hon : (SlK K2).Own w3 w0.heap.size sv' (gs ++ [g1])) (hgr : w2.grownBy w3 sv.ownBlock) (hat : sv'.ownBlock = sv.ownBlock ∨ sv'.ownBlock = some w2.heap.size) (hlt : g1 < w2.heap.size) :
  w3.rangeAt gf 0 [hv, vv, ov, sv] ∧ Fm w0 gf K1 K2 hv vv ov sv' go (gs ++ [g1]) O (S ++ [d]) (w3.setCell ⟨gf, 3, none⟩ sv') := by
 have hF := h.below hb
 have hne : ∀ k, sv.ownBlock = some k → w0.heap.size ≤ k := fun k e => (hF.so.lt e).1
 have hgf := hF.lt
 have hogf : ∀ {k}, sv.ownBlock = some k → k ≠ gf := fun e e2 => by have := hne _ e; omega
 have hr : w3.rangeAt gf 0 [hv, vv, ov, sv] := fun j x hx => hgr.cell (hF.r j x hx) (fun e => hogf e.symm rfl)
 have hz : Zn w3 gf := ⟨Nat.lt_of_lt_of_le hF.z.lt hgr.size, fun i => (World.frozen?_of_block (a := ⟨gf, i, none⟩) (hgr.block gf hF.z.lt (fun e => hogf e.symm rfl))).trans (hF.z.fr i)⟩
 have hog : ∀ g ∈ go ++ gs, g < w.heap.size := fun g hg => by
  rcases List.mem_append.1 hg with hg | hg
  ·exact h.op.lt hg
  ·exact h.sp.lt hg
 have hown : ∀ k, sv.ownBlock = some k → k < w.heap.size := fun k e => (h.so.lt e).2
 have how : ∀ k, ov.ownBlock = some k → k < w.heap.size := fun k e => (h.oo.lt e).2
 have hng1 : sv.ownBlock ≠ some g1 := fun e => by have := hown _ e; omega
 have hsz := hb.size
 have hs0 := h.gb.size
 refine ⟨hr, rng_f3 hr, hz.set_, own_off (own_other hF.oo hgr hF.os) hgf, own_off hon hgf, ?_, ?_, ?_, ?_, ?_, ?_, ?_, (gb_row hF.gb hgr hne).trans gb_set, hgf⟩
 ·exact Rws.off (hF.op.grown hgr fun g hg => hF.ns g (List.mem_append_left _ hg)) fun g hg => by have := hF.gt g (List.mem_append_left _ hg); omega
 ·refine Rws.off ((hF.sp.grown hgr fun g hg => hF.ns g (List.mem_append_right _ hg)).snoc (hp.grown hgr hng1)) fun g hg => ?_
  rcases List.mem_append.1 hg with hg | hg
  ·have := hF.gt g (List.mem_append_right _ hg); omega
  ·rw [List.mem_singleton] at hg; omega
 ·intro g hg
  rw [← List.append_assoc, List.mem_append, List.mem_singleton] at hg
  rcases hg with hg | hg
  ·exact hF.gt g hg
  ·omega
 ·rw [← List.append_assoc, List.nodup_append]
  refine ⟨hF.nd, by simp, ?_⟩
  intro a ha b hb e
  rw [List.mem_singleton] at hb
  have := hog a ha
  omega
 ·intro g hg e
  rw [← List.append_assoc, List.mem_append, List.mem_singleton] at hg
  rcases hg with hg | hg
  ·exact hF.no g hg e
  ·have := how _ e; omega
 ·intro g hg e
  rw [← List.append_assoc, List.mem_append, List.mem_singleton] at hg
  rcases hat with e2 | e2
  ·rw [e2] at e
   rcases hg with hg | hg
   ·exact hF.ns g hg e
   ·exact hng1 (by rw [e, hg])
  ·rw [e2] at e
   injection e with e
   rcases hg with hg | hg
   ·have := hog g hg; omega
   ·omega
 ·rcases hat with e2 | e2
  ·rw [e2]; exact hF.os
  ·cases ho : ov.ownBlock with
   | none => exact .inl rfl
   | some k =>
    refine .inr fun e => ?_
    rw [e2] at e
    injection e with e
    have := how _ ho
    omega
theorem Fm.kp (h : Fm w0 gf K1 K2 hv vv ov sv go gs O S w) {g : Nat} (hg : g ∈ go ++ gs) (hp : w.grownBy w' (some g)) : (w'.rangeAt gf 0 [hv, vv, ov, sv] ∧ Zn w' gf) ∧ w0.grownBy w' (some gf) := by
 have hgt := h.gt _ hg
 have hlt := h.lt
 refine ⟨⟨fun j x hx => hp.cell (h.r j x hx) (fun e => by injection e with e; dsimp only at e; omega), ⟨Nat.lt_of_lt_of_le h.z.lt hp.size, fun i => (World.frozen?_of_block (a := ⟨gf, i, none⟩) (hp.block gf h.z.lt (fun e => by injection e; omega))).trans (h.z.fr i)⟩⟩, ?_⟩
 exact gb_row h.gb hp (fun k e => by injection e; omega)
/-- a row of Over is marked -/
theorem Fm.putO (h : Fm w0 gf K1 K2 hv vv ov sv go gs O S w) {k : Nat} {d : List Bool} (hk : k < go.length) (hp : PxR w go[k] d w') : Fm w0 gf K1 K2 hv vv ov sv go gs (O.set k d) S w' := by
 have hm : go[k] ∈ go ++ gs := List.mem_append_left _ (List.getElem_mem hk)
 have hnd := (List.nodup_append.1 h.nd)
 obtain ⟨⟨k1, k2⟩, k3⟩ := h.kp hm hp.gb
 refine ⟨k1, k2, own_other h.oo hp.gb (.inr (h.no _ hm)), own_other h.so hp.gb (.inr (h.ns _ hm)), h.op.put hk hnd.1 hp, h.sp.grown hp.gb fun g hg e => ?_, h.gt, h.nd, h.no, h.ns, h.os, k3, h.lt⟩
 injection e with e
 exact hnd.2.2 _ (List.getElem_mem hk) g hg e
/-- a row of Side is marked -/
theorem Fm.putS (h : Fm w0 gf K1 K2 hv vv ov sv go gs O S w) {k : Nat} {d : List Bool} (hk : k < gs.length) (hp : PxR w gs[k] d w') : Fm w0 gf K1 K2 hv vv ov sv go gs O (S.set k d) w' := by
 have hm : gs[k] ∈ go ++ gs := List.mem_append_right _ (List.getElem_mem hk)
 have hnd := (List.nodup_append.1 h.nd)
 obtain ⟨⟨k1, k2⟩, k3⟩ := h.kp hm hp.gb
 refine ⟨k1, k2, own_other h.oo hp.gb (.inr (h.no _ hm)), own_other h.so hp.gb (.inr (h.ns _ hm)), h.op.grown hp.gb fun g hg e => ?_, h.sp.put hk hnd.2.1 hp, h.gt, h.nd, h.no, h.ns, h.os, k3, h.lt⟩
 injection e with e
 exact hnd.2.2 g hg _ (List.getElem_mem hk) e.symm
end
/-- rows that are read: the slice, the blocks, the pixels -/
def RdW (w : World) (K : Nat) (A : Option Addr) (n c : Nat) (M : List (List Bool)) : Prop := ∃ gs, n = gs.length ∧ (SlK K).Rd w A c gs ∧ Rws w gs M
theorem RdW.below {w w' : World} {K n c : Nat} {A : Option Addr} {M : List (List Bool)} (h : RdW w K A n c M) (hb : Below w.heap.size w w') : RdW w' K A n c M := by
 obtain ⟨gs, h1, h2, h3⟩ := h
 exact ⟨gs, h1, h2.below hb, h3.below hb⟩
/-- a pixel of such rows: the row's header, and the pixel -/
theorem RdW.at_ {w : World} {K n c : Nat} {A : Option Addr} {M : List (List Bool)} (h : RdW w K A n c M) {k : Nat} (hk : k < M.length) : k < n ∧ ∃ b o g, A = some ⟨b, o, none⟩ ∧ w.cell? ⟨b, o + k, none⟩ = some (.slice (some ⟨g, 0, none⟩) K K) ∧ PxA w g M[k] := by
 obtain ⟨gs, h1, h2, h3⟩ := h
 have hk2 : k < gs.length := by rw [h3.len]; exact hk
 obtain ⟨b, o, e, hc⟩ := h2.at_ hk2
 refine ⟨by omega, b, o, gs[k], e, ?_, h3.px k hk2 hk⟩
 have := hc 0 _ rfl
 have e2 : o + k * (SlK K).k = o + k := by show o + k * 1 = o + k; omega
 rw [e2] at this
 exact this
end Go.Proofs.YtjfgklhifhaaoaaGreat
/- Tables: the frame of lines, of the reference. Conditions: at most 512 valid lines. -/
namespace Go.Proofs.YtjfgklhifhaaoaaGreat
open Go.RowKit
section
variable {P : Program} {L : List Oper} {Q : Exit → Act → World → Prop} {md : Region.Mode} {S : World → Prop}
theorem tkA {i : Nat} {oi : Oper} {v : Value} {fuel : Nat} {ls : Array Bool} {a : Act} {w : World} (hi : L[i]? = some oi)
  (hB : (Region.noSelect L.toArray && (Region.free md L.toArray ls i && (Region.ready md L.toArray ls).contains i)) = true)
  (hy : YieldsIf P L.toArray S oi v a) (hS : S w) (hQ : ∀ c a w, Q (.panic c) (a.put oi.dst v) w → Q (.panic c) a w)
  (h : wpAnyH P md L.toArray Q S fuel (ls.setIfInBounds i true) (a.put oi.dst v) w) : wpAnyH P md L.toArray Q S (fuel + 1) ls a w := by
 simp only [Bool.and_eq_true] at hB
 exact wpAnyH_take (by simpa using hi) hB.1 hB.2.1 hB.2.2 hQ hy hS h
theorem brA {i : Nat} {o : Oper} {fuel : Nat} {ls : Array Bool} {a : Act} {w : World} (hr : Region.ready md L.toArray ls = [i]) (ho : L[i]? = some o)
  (h : ∀ K' : Act → World → Prop, Shut (∀ a w, S w → (S w → wpAnyH P md L.toArray Q S fuel (ls.setIfInBounds i true) a w) → K' a w) → if Region.wanted o (yielded L.toArray a.tmps) = true then Oper.wp P o a w K' Q else K' (a.put o.dst undef) w) : wpAnyH P md L.toArray Q S (fuel + 1) ls a w :=
 wpAnyH_ready hr (by simp) (AllReadyH.cons (by simpa using ho) h AllReadyH.nil)
end
theorem frmK_none {H V : List (Int × Int)} {l : List Ru} {i : Nat} (hi : i ≤ l.length) (h : frmK H V l i = none) : frmL H V l = none := by
 have hb : ∀ (L : List Ru), L.foldl (fun st r => Option.bind st fun s => frmS H V s r) (none : Option Fs) = none := fun L => by
  induction L with
  | nil => rfl
  | cons a L ih => exact ih
 have e : frmL H V l = (l.drop i).foldl (fun st r => Option.bind st fun s => frmS H V s r) (frmK H V l i) := by
  unfold frmK frmL
  rw [← List.foldl_append, List.take_append_drop]
 rw [e, h, hb]
theorem frmK_n {H V : List (Int × Int)} {l : List Ru} : ∀ {i : Nat} {s : Fs}, i ≤ l.length → frmK H V l i = some s → s.n ≤ i
 | 0, s, _, h => by
  obtain rfl : s = frm0 H V := by simpa [frmK, frmL] using h.symm
  exact Nat.le_refl _
 | i + 1, s, hi, h => by
  rw [frmK_succ (by omega)] at h
  cases e : frmK H V l i with
  | none => rw [e] at h; cases h
  | some s0 =>
   rw [e] at h
   have h0 := frmK_n (by omega) e
   have h' : frmS H V s0 l[i] = some s := h
   unfold frmS at h'
   split at h'
   ·obtain ⟨c, _, rfl⟩ := Option.map_eq_some_iff.1 h'
    dsimp only
    split <;> omega
   ·obtain ⟨c, _, rfl⟩ := Option.map_eq_some_iff.1 h'
    dsimp only
    split <;> omega
/-- what the walk wants of the lines' frame -/
structure FrF (H V : List (Int × Int)) (l : List Ru) (q : Option Fs) : Prop where
 h2 : 2 ≤ H.length
 v2 : 2 ≤ V.length
 hb : ∀ x ∈ H, (0 ≤ x.1 ∧ x.1 ≤ 4096) ∧ 1 ≤ x.2 ∧ x.2 ≤ 4096
 vb : ∀ x ∈ V, (0 ≤ x.1 ∧ x.1 ≤ 4096) ∧ 1 ≤ x.2 ∧ x.2 ≤ 4096
 ok : ∀ i, i ≤ l.length → ∀ s, frmK H V l i = some s → (s.O.length = H.length ∧ ∀ k, k < H.length → (s.O.getD k []).length = V.length - 1) ∧ (s.S.length = V.length ∧ ∀ k, k < V.length → (s.S.getD k []).length = H.length - 1) ∧ s.n ≤ i
 ph : ∀ i (h : i < l.length), l[i].v = false → placP H l[i].a < H.length
 pv : ∀ i (h : i < l.length), l[i].v = true → placP V l[i].a < V.length
 no : ∀ i, i ≤ l.length → frmK H V l i = none → q = none
 fin : ∀ s, frmK H V l l.length = some s → q = if frmF H V s then some s else none
theorem frf {l : List Ru} (hok : ∀ r ∈ l, okR r = true) (hH : aptE (bndR l false) = true) (hV : aptE (bndR l true) = true) : FrF (bndR l false) (bndR l true) l (frmR l) := by
 have hbm : ∀ v, ∀ x ∈ bndR l v, (0 ≤ x.1 ∧ x.1 ≤ 4096) ∧ 1 ≤ x.2 ∧ x.2 ≤ 4096 := fun v x hx => by
  rw [bndR_mem] at hx
  unfold bndL at hx
  obtain ⟨r, hr, rfl⟩ := List.mem_map.1 hx
  have := okR_iff.1 (hok r (List.mem_filter.1 hr).1)
  dsimp only
  omega
 have hap : ∀ v, aptE (bndR l v) = true → SepB (bndR l v) ∧ 2 ≤ (bndR l v).length := fun v ha => by
  unfold aptE at ha
  rw [Bool.and_eq_true, decide_eq_true_iff] at ha
  exact ⟨aptL_sep (fun x hx => (hbm v x hx).2.1) ha.1, ha.2⟩
 obtain ⟨sH, lH⟩ := hap false hH
 obtain ⟨sV, lV⟩ := hap true hV
 have stOf : ∀ v, SepB (bndR l v) → StB (bndR l v) := fun v hs => by
  refine List.Pairwise.imp_of_mem ?_ hs
  intro a b ha _ hab
  have := hbm v a ha
  omega
 have hin : ∀ r ∈ l, (r.a, r.t) ∈ if r.v then bndR l true else bndR l false := fun r hr => by
  have : ∀ v, r.v = v → (r.a, r.t) ∈ bndR l v := fun v hv => by
   rw [bndR_mem]
   exact List.mem_map.2 ⟨r, List.mem_filter.2 ⟨hr, by simpa using hv⟩, rfl⟩
  cases hv : r.v
  ·exact this false hv
  ·exact this true hv
 have hall := frm_all sH sV (stOf _ sH) (stOf _ sV) (fun x hx => (hbm false x hx).2.1) (fun x hx => (hbm true x hx).2.1) hin
 have hfr : frmR l = (frmL (bndR l false) (bndR l true) l).bind fun s => if frmF (bndR l false) (bndR l true) s then some s else none := by
  unfold frmR
  rw [hH, hV]; rfl
 refine ⟨lH, lV, hbm false, hbm true, ?_, ?_, ?_, ?_, ?_⟩
 ·intro i hi s hs
  have hk := (hall i hi).2 s hs
  exact ⟨⟨hk.o.len, hk.o.row⟩, ⟨hk.sd.len, hk.sd.row⟩, frmK_n hi hs⟩
 ·intro i hi hv
  have := hin _ (List.getElem_mem hi)
  rw [hv] at this
  exact (plac_idx (stOf _ sH) this).2.1
 ·intro i hi hv
  have := hin _ (List.getElem_mem hi)
  rw [hv] at this
  exact (plac_idx (stOf _ sV) this).2.1
 ·intro i hi hn
  rw [hfr, frmK_none hi hn]; rfl
 ·intro s hs
  have e : frmL (bndR l false) (bndR l true) l = some s := by
   have h1 : frmK (bndR l false) (bndR l true) l l.length = frmL (bndR l false) (bndR l true) l := by unfold frmK; rw [List.take_length]
   rw [← h1]; exact hs
  rw [hfr, e]; rfl
theorem frm_no {l : List Ru} (h : aptE (bndR l false) = false ∨ aptE (bndR l true) = false) : frmR l = none := by
 unfold frmR
 rw [if_neg]
 rw [Bool.and_eq_true]
 rintro ⟨h1, h2⟩
 rcases h with h | h
 ·rw [h1] at h; cases h
 ·rw [h2] at h; cases h
theorem bndR_len (l : List Ru) (v : Bool) (h : l.length ≤ 100000) : (bndR l v).length ≤ l.length := by
 rw [← insK_all]
 exact insK_len l v h l.length (Nat.le_refl _)
/-- a frame that comes back -/
def RetFm (w : World) (H V : List (Int × Int)) (q : Option Fs) (e : Ending) (w' : World) : Prop :=
 ∃ A1 n1 c1 A2 n2 c2 A3 n3 c3 A4 n4 c4, e = .returned (.tuple #[.agg #[.slice A1 n1 c1, .slice A2 n2 c2, .slice A3 n3 c3, .slice A4 n4 c4], .bool q.isSome]) ∧
  (∀ s, q = some s → (n1 = H.length ∧ n2 = V.length) ∧ (PtK.Rd w' A1 c1 H ∧ PtK.Rd w' A2 c2 V) ∧ RdW w' (V.length - 1) A3 n3 c3 s.O ∧ RdW w' (H.length - 1) A4 n4 c4 s.S) ∧ Below w.heap.size w w'
theorem Rd.gb {α : Type} {X : Knd α} {w w' : World} {A : Option Addr} {c g : Nat} {l : List α} (h : X.Rd w A c l) (hg : w.grownBy w' (some g)) (hne : ∀ b o, A = some ⟨b, o, none⟩ → 0 < l.length → b ≠ g) : X.Rd w' A c l :=
 ⟨h.cap, h.max, fun hl => by
  obtain ⟨b, o, e, hlt, hc⟩ := h.rd hl
  exact ⟨b, o, e, Nat.lt_of_lt_of_le hlt hg.size, fun j hj i v hv => hg.cell (hc j hj i v hv) (fun e2 => by injection e2 with e2; exact hne b o e hl e2)⟩⟩
end Go.Proofs.YtjfgklhifhaaoaaGreat
