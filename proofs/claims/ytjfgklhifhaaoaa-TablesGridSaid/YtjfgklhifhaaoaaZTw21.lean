/- Tables: the neighbours of a place. Conditions: at most 512 rows and columns. -/
import Derived.Test.YtjfgklhifhaaoaaZTw20
set_option linter.unusedVariables false
set_option linter.unusedSimpArgs false
namespace Go.Proofs.Ytjfgklhifhaaoaa
open Go.RowKit
def oneL (c : Bool) (x : Nat) : List Nat := if c then [x] else []
theorem oneL_false (x : Nat) : oneL false x = [] := rfl
theorem oneL_true (x : Nat) : oneL true x = [x] := rfl
theorem oneL_len (c : Bool) (x : Nat) : (oneL c x).length ≤ 1 := by cases c <;> simp [oneL]
theorem nxtL_eq (p : Pl) (i : Nat) : nxtL p i = oneL (decide (0 < i % p.cols) && !at0 p.R (i - 1)) (i - 1) ++ oneL (decide (i % p.cols + 1 < p.cols) && !at0 p.R i) (i + 1) ++
  oneL (decide (0 < i / p.cols) && !at0 p.B (i - p.cols)) (i - p.cols) ++ oneL (decide (i / p.cols + 1 < p.rows) && !at0 p.B i) (i + p.cols) := by
 unfold nxtL oneL
 simp only [Bool.and_eq_true, decide_eq_true_eq, Bool.not_eq_true']
/-- the places of a table lie in memory -/
structure PlOk (w : World) (p : Pl) (gR gB : Nat) : Prop where
 R : PxA w gR p.R
 B : PxA w gB p.B
 lR : p.R.length = p.rows * p.cols
 lB : p.B.length = p.rows * p.cols
 r : p.rows ≤ 512
 c : p.cols ≤ 512
theorem at0_get {l : List Bool} {i : Nat} (h : i < l.length) : at0 l i = l[i] := by
 unfold at0
 rw [List.getD_eq_getElem?_getD, List.getElem?_eq_getElem h]; rfl
theorem PxA.at0 {w : World} {g i : Nat} {l : List Bool} (h : PxA w g l) (hi : i < l.length) : w.cell? ⟨g, i, none⟩ = some (.bool (at0 l i)) := by
 rw [at0_get hi]; exact h.cell hi
set_option maxRecDepth 100000 in
set_option maxHeartbeats 8000000 in
theorem Tnxt_g (p : Pl) (gR gB gM i : Nat) {w : World} (hp : PlOk w p gR gB) (hi : i < p.rows * p.cols) : Calls Try.prog 45 #[plV p gR gB gM, .int .i64 i] w (NaK.Ret w (nxtL p i)) := by
 obtain ⟨R, C, r, b⟩ := p
 obtain ⟨pR, pB, lR, lB, hr, hc⟩ := hp
 have hE := hid (nxtL_eq ⟨R, C, r, b⟩ i)
 dsimp only at *
 rw [← List.nil_append (oneL (decide (0 < i % C) && !at0 r (i - 1)) (i - 1))] at hE
 unfold plV
 dsimp only
 have hC0 : 0 < C := Nat.pos_of_ne_zero fun e => by rw [e, Nat.mul_zero] at hi; omega
 have hdl : i / C < R := Nat.div_lt_of_lt_mul (by rw [Nat.mul_comm]; exact hi)
 have hml : i % C < C := Nat.mod_lt _ hC0
 have hdm : i / C * C + i % C = i := by rw [Nat.mul_comm]; exact Nat.div_add_mod i C
 have hN4 : R * C ≤ 512 * 512 := Nat.mul_le_mul hr hc
 generalize nxtL ⟨R, C, r, b⟩ i = L at *
 obtain ⟨N, hN⟩ : ∃ n, R * C = n := ⟨_, rfl⟩
 rw [hN] at lR lB hN4 hi ⊢
 obtain ⟨y, hy⟩ : ∃ y, i / C = y := ⟨_, rfl⟩
 obtain ⟨x, hx⟩ : ∃ x, i % C = x := ⟨_, rfl⟩
 have hdv : Int.tdiv (i : Int) (C : Int) = (y : Int) := by rw [← hy, ← Int.ofNat_tdiv]
 have hmd : Int.tmod (i : Int) (C : Int) = (x : Int) := by rw [← hx, ← Int.ofNat_tmod]
 have hCi : ((C : Int) == 0) = false := by rw [beq_eq_false_iff_ne]; omega
 rw [hy] at hE hdl hdm
 rw [hx] at hE hml hdm
 go_enter Try.func45, Try.ntmps45
 go_upto_region 1 with fail
 refine enterR (P := fun u => Code.wp _ _ _ _ u) (c := [.int .i64 (R : Int), .int .i64 (C : Int), .slice (some ⟨gR, 0, none⟩) N N, .slice (some ⟨gB, 0, none⟩) N N, .slice (some ⟨gM, 0, none⟩) N N]) ?_
 intro u HB r0 zn0 hsz
 have c0 : u.cell? ⟨w.heap.size, 0, none⟩ = some (.int .i64 (R : Int)) := r0 0 _ rfl
 have c1 : u.cell? ⟨w.heap.size, 1, none⟩ = some (.int .i64 (C : Int)) := r0 1 _ rfl
 have c2 : u.cell? ⟨w.heap.size, 2, none⟩ = some (.slice (some ⟨gR, 0, none⟩) N N) := r0 2 _ rfl
 have c3 : u.cell? ⟨w.heap.size, 3, none⟩ = some (.slice (some ⟨gB, 0, none⟩) N N) := r0 3 _ rfl
 clear hy hx hsz r0 zn0
 go_wp2_with fail
 go_quiet (fail)
 have hv : Below u.heap.size u (u.drewN nq) := below_drewN (Below.refl _ _) _
 generalize u.drewN nq = v0 at hv ⊢
 have lt0 := cell_lt (keep_cell hv c0)
 have hG := hid fun (W : World) (hb : Below v0.heap.size v0 W) => (show (W.cell? ⟨w.heap.size, 0, none⟩ = some (.int .i64 (R : Int)) ∧ W.cell? ⟨w.heap.size, 1, none⟩ = some (.int .i64 (C : Int))) ∧ (W.cell? ⟨w.heap.size, 2, none⟩ = some (.slice (some ⟨gR, 0, none⟩) N N) ∧ W.cell? ⟨w.heap.size, 3, none⟩ = some (.slice (some ⟨gB, 0, none⟩) N N)) ∧ Below w.heap.size w W ∧ PxA W gR r ∧ PxA W gB b from by
  have h2 := bel_step hv hb
  have h3 := bel_step HB h2
  exact ⟨⟨keep_cell h2 c0, keep_cell h2 c1⟩, ⟨keep_cell h2 c2, keep_cell h2 c3⟩, h3, pR.below h3, pB.below h3⟩)
 have hb0 := Below.refl v0.heap.size v0
 have hO0 : NaK.Own v0 v0.heap.size (.slice none 0 0) [] := Knd.Own.nil _ _
 clear hv HB c0 c1 c2 c3 pR pB
 obtain ⟨j1, e1⟩ : ∃ t, i - 1 = t := ⟨_, rfl⟩
 obtain ⟨j2, e2⟩ : ∃ t, i + 1 = t := ⟨_, rfl⟩
 obtain ⟨j3, e3⟩ : ∃ t, i - C = t := ⟨_, rfl⟩
 obtain ⟨j4, e4⟩ : ∃ t, i + C = t := ⟨_, rfl⟩
 rw [e1, e2, e3, e4] at hE
 have w1 := hid fun h : 0 < x => (show IntKind.i64.wrap ((i : Int) - 1) = (j1 : Int) from by rw [IntKind.wrap_i64]; omega)
 have w2 : IntKind.i64.wrap ((x : Int) + 1) = (x : Int) + 1 := by rw [IntKind.wrap_i64]; omega
 have w3 : IntKind.i64.wrap ((y : Int) + 1) = (y : Int) + 1 := by rw [IntKind.wrap_i64]; omega
 have w4 := hid (show IntKind.i64.wrap ((i : Int) + 1) = (j2 : Int) from by rw [IntKind.wrap_i64]; omega)
 have w5 := hid fun h : 0 < y => (show IntKind.i64.wrap ((i : Int) - (C : Int)) = (j3 : Int) from by
  have : 1 * C ≤ y * C := Nat.mul_le_mul_right _ h
  rw [IntKind.wrap_i64]; omega)
 have w6 := hid (show IntKind.i64.wrap ((i : Int) + (C : Int)) = (j4 : Int) from by rw [IntKind.wrap_i64]; omega)
 have e1 := hid e1
 have e2 := hid e2
 have e3 := hid e3
 have e4 := hid e4
 have l1 : j1 < N := by have := e1.out; omega
 have l3 : j3 < N := by have := e3.out; omega
 have hpi : ∀ a : Nat, (0 < a) → (0 : Int) < (a : Int) := fun a h => by omega
 obtain ⟨P_, hP_⟩ : ∃ t, (decide (0 < x) && !at0 r j1) = t := ⟨_, rfl⟩
 go_upto_region 3 with fail
 go_cut [26] (fun s_ wx => s_ = .bool P_ ∧ wx = v0)
 case first =>
  obtain ⟨⟨k0, k1⟩, ⟨k2, k3⟩, -, qR, qB⟩ := hG.out v0 hb0
  clear hO0 hE hG
  by_cases hq : 0 < x
  ·have hx_ := PxA.at0 (i := j1) (by first | exact qR | exact qB) (show j1 < r.length from (by omega))
   (have wk := w1.out hq; have hci : (0 : Int) < (x : Int) := by omega)
   rw [decide_eq_true hq, Bool.true_and] at hP_
   have hjn : ((j1 : Nat) : Int) < (N : Int) := by omega
   generalize at0 r j1 = t_ at *
   subst hP_
   clear qR qB
   go_wp2_with fail
   go_meet
   exact ⟨rfl, rfl⟩
  ·(have hci : ¬ (0 : Int) < (x : Int) := by omega)
   rw [decide_eq_false hq, Bool.false_and] at hP_
   subst hP_
   clear qR qB
   go_wp2_with fail
   go_meet
   exact ⟨rfl, rfl⟩
 obtain ⟨rfl, hwc⟩ := hcut
 rw [hwc]
 clear hwc wc
 go_upto_if 26 with fail
 go_cut [7] (fun s_ wx => NaK.Own wx v0.heap.size s_ (([] : List Nat) ++ oneL P_ j1) ∧ Below v0.heap.size v0 wx)
 case first =>
  obtain ⟨⟨k0, k1⟩, -, -⟩ := hG.out v0 hb0
  have hlp_ := (show ([] : List Nat).length ≤ 0 from Nat.le_refl _)
  have hss_ := hb0.size
  clear hE hG
  cases P_
  ·clear hP_
   go_wp2_with fail
   go_meet
   exact ⟨by rw [oneL_false, List.append_nil]; exact hO0, hb0⟩
  ·have hcd := of_decide_eq_true (Bool.and_eq_true_iff.1 hP_).1
   (have wk := w1.out hcd)
   clear hP_
   have hOx := hO0.below ((Below.refl _ _).alloc (Nat.le_refl _) (.cells #[(.int .i64 j1 : Value)] 3))
   have hBx := hb0.alloc hss_ (.cells #[(.int .i64 j1 : Value)] 3)
   have hr_ := rng_alloc (w := v0) (cs := [(.int .i64 j1 : Value)]) (t := 3)
   clear hO0 hb0
   go_wp2_with (at_builtin; go_loud (refine Knd.app1 NaKo rfl (.tmp 27) (.tmp 30) rfl v0.heap.size _ (([] : List Nat)) j1 v0.heap.size rfl hOx rfl hr_ (by omega) (by simp only [World.size_alloc]; omega) ?_); intro v' w' hO' hg' hat'; have hb' := hid (Knd.grown hBx hOx hg' (by simp only [World.size_alloc]; omega) (Nat.le_refl _)); have hO' := hid hO'; clear hg' hat' hOx hBx hr_)
   go_meet
   go_light
   exact ⟨by rw [oneL_true]; exact hO'.out, hb'.out⟩
 obtain ⟨hO_, hb_⟩ := hcut
 obtain ⟨v1, hwc⟩ : ∃ z, z = wc := ⟨_, rfl⟩
 rw [← hwc] at hO_ hb_ ⊢
 clear hwc wc hO0 hb0
 have hO0 := hO_
 have hb0 := hb_
 rw [hP_] at hE
 obtain ⟨L1, hln_⟩ : ∃ z, ([] : List Nat) ++ oneL P_ j1 = z := ⟨_, rfl⟩
 have L1l : L1.length ≤ 1 := by
  have h1_ := (show ([] : List Nat).length ≤ 0 from Nat.le_refl _)
  have h2_ := oneL_len P_ j1
  have h3_ := congrArg List.length hln_
  rw [List.length_append] at h3_
  omega
 rw [hln_] at hE hO0
 clear hO_ hb_ hP_ hln_ P_
 obtain ⟨P_, hP_⟩ : ∃ t, (decide (x + 1 < C) && !at0 r i) = t := ⟨_, rfl⟩
 go_upto_region 5 with fail
 go_cut [44] (fun s_ wx => s_ = .bool P_ ∧ wx = v1)
 case first =>
  obtain ⟨⟨k0, k1⟩, ⟨k2, k3⟩, -, qR, qB⟩ := hG.out v1 hb0
  clear hO0 hE hG
  by_cases hq : x + 1 < C
  ·have hx_ := PxA.at0 (i := i) (by first | exact qR | exact qB) (show i < r.length from (by omega))
   (have hci : (x : Int) + 1 < (C : Int) := by omega)
   rw [decide_eq_true hq, Bool.true_and] at hP_
   have hjn : ((i : Nat) : Int) < (N : Int) := by omega
   generalize at0 r i = t_ at *
   subst hP_
   clear qR qB
   go_wp2_with fail
   go_meet
   exact ⟨rfl, rfl⟩
  ·(have hci : ¬ (x : Int) + 1 < (C : Int) := by omega)
   rw [decide_eq_false hq, Bool.false_and] at hP_
   subst hP_
   clear qR qB
   go_wp2_with fail
   go_meet
   exact ⟨rfl, rfl⟩
 obtain ⟨rfl, hwc⟩ := hcut
 rw [hwc]
 clear hwc wc
 go_upto_if 44 with fail
 go_cut [7] (fun s_ wx => NaK.Own wx v0.heap.size s_ (L1 ++ oneL P_ j2) ∧ Below v0.heap.size v0 wx)
 case first =>
  obtain ⟨⟨k0, k1⟩, -, -⟩ := hG.out v1 hb0
  have hlp_ := L1l
  have hss_ := hb0.size
  clear hE hG
  cases P_
  ·clear hP_
   go_wp2_with fail
   go_meet
   exact ⟨by rw [oneL_false, List.append_nil]; exact hO0, hb0⟩
  ·have hcd := of_decide_eq_true (Bool.and_eq_true_iff.1 hP_).1
   (have wk := w4.out)
   clear hP_
   have hOx := hO0.below ((Below.refl _ _).alloc (Nat.le_refl _) (.cells #[(.int .i64 j2 : Value)] 3))
   have hBx := hb0.alloc hss_ (.cells #[(.int .i64 j2 : Value)] 3)
   have hr_ := rng_alloc (w := v1) (cs := [(.int .i64 j2 : Value)]) (t := 3)
   clear hO0 hb0
   go_wp2_with (at_builtin; go_loud (refine Knd.app1 NaKo rfl (.tmp 45) (.tmp 48) rfl v0.heap.size _ (L1) j2 v1.heap.size rfl hOx rfl hr_ (by omega) (by simp only [World.size_alloc]; omega) ?_); intro v' w' hO' hg' hat'; have hb' := hid (Knd.grown hBx hOx hg' (by simp only [World.size_alloc]; omega) (Nat.le_refl _)); have hO' := hid hO'; clear hg' hat' hOx hBx hr_)
   go_meet
   go_light
   exact ⟨by rw [oneL_true]; exact hO'.out, hb'.out⟩
 obtain ⟨hO_, hb_⟩ := hcut
 obtain ⟨v2, hwc⟩ : ∃ z, z = wc := ⟨_, rfl⟩
 rw [← hwc] at hO_ hb_ ⊢
 clear hwc wc hO0 hb0
 have hO0 := hO_
 have hb0 := hb_
 rw [hP_] at hE
 obtain ⟨L2, hln_⟩ : ∃ z, L1 ++ oneL P_ j2 = z := ⟨_, rfl⟩
 have L2l : L2.length ≤ 2 := by
  have h1_ := L1l
  have h2_ := oneL_len P_ j2
  have h3_ := congrArg List.length hln_
  rw [List.length_append] at h3_
  omega
 rw [hln_] at hE hO0
 clear hO_ hb_ hP_ hln_ P_
 obtain ⟨P_, hP_⟩ : ∃ t, (decide (0 < y) && !at0 b j3) = t := ⟨_, rfl⟩
 go_upto_region 7 with fail
 go_cut [62] (fun s_ wx => s_ = .bool P_ ∧ wx = v2)
 case first =>
  obtain ⟨⟨k0, k1⟩, ⟨k2, k3⟩, -, qR, qB⟩ := hG.out v2 hb0
  clear hO0 hE hG
  by_cases hq : 0 < y
  ·have hx_ := PxA.at0 (i := j3) (by first | exact qR | exact qB) (show j3 < b.length from (by omega))
   (have wk := w5.out hq; have hci : (0 : Int) < (y : Int) := by omega)
   rw [decide_eq_true hq, Bool.true_and] at hP_
   have hjn : ((j3 : Nat) : Int) < (N : Int) := by omega
   generalize at0 b j3 = t_ at *
   subst hP_
   clear qR qB
   go_wp2_with fail
   go_meet
   exact ⟨rfl, rfl⟩
  ·(have hci : ¬ (0 : Int) < (y : Int) := by omega)
   rw [decide_eq_false hq, Bool.false_and] at hP_
   subst hP_
   clear qR qB
   go_wp2_with fail
   go_meet
   exact ⟨rfl, rfl⟩
 obtain ⟨rfl, hwc⟩ := hcut
 rw [hwc]
 clear hwc wc
 go_upto_if 62 with fail
 go_cut [7] (fun s_ wx => NaK.Own wx v0.heap.size s_ (L2 ++ oneL P_ j3) ∧ Below v0.heap.size v0 wx)
 case first =>
  obtain ⟨⟨k0, k1⟩, -, -⟩ := hG.out v2 hb0
  have hlp_ := L2l
  have hss_ := hb0.size
  clear hE hG
  cases P_
  ·clear hP_
   go_wp2_with fail
   go_meet
   exact ⟨by rw [oneL_false, List.append_nil]; exact hO0, hb0⟩
  ·have hcd := of_decide_eq_true (Bool.and_eq_true_iff.1 hP_).1
   (have wk := w5.out hcd)
   clear hP_
   have hOx := hO0.below ((Below.refl _ _).alloc (Nat.le_refl _) (.cells #[(.int .i64 j3 : Value)] 3))
   have hBx := hb0.alloc hss_ (.cells #[(.int .i64 j3 : Value)] 3)
   have hr_ := rng_alloc (w := v2) (cs := [(.int .i64 j3 : Value)]) (t := 3)
   clear hO0 hb0
   go_wp2_with (at_builtin; go_loud (refine Knd.app1 NaKo rfl (.tmp 63) (.tmp 68) rfl v0.heap.size _ (L2) j3 v2.heap.size rfl hOx rfl hr_ (by omega) (by simp only [World.size_alloc]; omega) ?_); intro v' w' hO' hg' hat'; have hb' := hid (Knd.grown hBx hOx hg' (by simp only [World.size_alloc]; omega) (Nat.le_refl _)); have hO' := hid hO'; clear hg' hat' hOx hBx hr_)
   go_meet
   go_light
   exact ⟨by rw [oneL_true]; exact hO'.out, hb'.out⟩
 obtain ⟨hO_, hb_⟩ := hcut
 obtain ⟨v3, hwc⟩ : ∃ z, z = wc := ⟨_, rfl⟩
 rw [← hwc] at hO_ hb_ ⊢
 clear hwc wc hO0 hb0
 have hO0 := hO_
 have hb0 := hb_
 rw [hP_] at hE
 obtain ⟨L3, hln_⟩ : ∃ z, L2 ++ oneL P_ j3 = z := ⟨_, rfl⟩
 have L3l : L3.length ≤ 3 := by
  have h1_ := L2l
  have h2_ := oneL_len P_ j3
  have h3_ := congrArg List.length hln_
  rw [List.length_append] at h3_
  omega
 rw [hln_] at hE hO0
 clear hO_ hb_ hP_ hln_ P_
 obtain ⟨P_, hP_⟩ : ∃ t, (decide (y + 1 < R) && !at0 b i) = t := ⟨_, rfl⟩
 go_upto_region 9 with fail
 go_cut [82] (fun s_ wx => s_ = .bool P_ ∧ wx = v3)
 case first =>
  obtain ⟨⟨k0, k1⟩, ⟨k2, k3⟩, -, qR, qB⟩ := hG.out v3 hb0
  clear hO0 hE hG
  by_cases hq : y + 1 < R
  ·have hx_ := PxA.at0 (i := i) (by first | exact qR | exact qB) (show i < b.length from (by omega))
   (have hci : (y : Int) + 1 < (R : Int) := by omega)
   rw [decide_eq_true hq, Bool.true_and] at hP_
   have hjn : ((i : Nat) : Int) < (N : Int) := by omega
   generalize at0 b i = t_ at *
   subst hP_
   clear qR qB
   go_wp2_with fail
   go_meet
   exact ⟨rfl, rfl⟩
  ·(have hci : ¬ (y : Int) + 1 < (R : Int) := by omega)
   rw [decide_eq_false hq, Bool.false_and] at hP_
   subst hP_
   clear qR qB
   go_wp2_with fail
   go_meet
   exact ⟨rfl, rfl⟩
 obtain ⟨rfl, hwc⟩ := hcut
 rw [hwc]
 clear hwc wc
 go_upto_if 82 with fail
 go_cut [7] (fun s_ wx => NaK.Own wx v0.heap.size s_ (L3 ++ oneL P_ j4) ∧ Below v0.heap.size v0 wx)
 case first =>
  obtain ⟨⟨k0, k1⟩, -, -⟩ := hG.out v3 hb0
  have hlp_ := L3l
  have hss_ := hb0.size
  clear hE hG
  cases P_
  ·clear hP_
   go_wp2_with fail
   go_meet
   exact ⟨by rw [oneL_false, List.append_nil]; exact hO0, hb0⟩
  ·have hcd := of_decide_eq_true (Bool.and_eq_true_iff.1 hP_).1
   (have wk := w6.out)
   clear hP_
   have hOx := hO0.below ((Below.refl _ _).alloc (Nat.le_refl _) (.cells #[(.int .i64 j4 : Value)] 3))
   have hBx := hb0.alloc hss_ (.cells #[(.int .i64 j4 : Value)] 3)
   have hr_ := rng_alloc (w := v3) (cs := [(.int .i64 j4 : Value)]) (t := 3)
   clear hO0 hb0
   go_wp2_with (at_builtin; go_loud (refine Knd.app1 NaKo rfl (.tmp 83) (.tmp 88) rfl v0.heap.size _ (L3) j4 v3.heap.size rfl hOx rfl hr_ (by omega) (by simp only [World.size_alloc]; omega) ?_); intro v' w' hO' hg' hat'; have hb' := hid (Knd.grown hBx hOx hg' (by simp only [World.size_alloc]; omega) (Nat.le_refl _)); have hO' := hid hO'; clear hg' hat' hOx hBx hr_)
   go_meet
   go_light
   exact ⟨by rw [oneL_true]; exact hO'.out, hb'.out⟩
 obtain ⟨hO_, hb_⟩ := hcut
 obtain ⟨v4, hwc⟩ : ∃ z, z = wc := ⟨_, rfl⟩
 rw [← hwc] at hO_ hb_ ⊢
 clear hwc wc hO0 hb0
 have hO0 := hO_
 have hb0 := hb_
 rw [hP_] at hE
 obtain ⟨L4, hln_⟩ : ∃ z, L3 ++ oneL P_ j4 = z := ⟨_, rfl⟩
 have L4l : L4.length ≤ 4 := by
  have h1_ := L3l
  have h2_ := oneL_len P_ j4
  have h3_ := congrArg List.length hln_
  rw [List.length_append] at h3_
  omega
 rw [hln_] at hE hO0
 clear hO_ hb_ hP_ hln_ P_
 obtain ⟨-, -, hbw, -⟩ := hG.out v4 hb0
 have hOw := hO0.older (Nat.le_of_lt lt0)
 have hE2 := hE.out
 subst hE2
 clear hE hG hb0 hO0
 go_wp2
 go_ret
 exact ⟨_, rfl, hOw.older (Nat.le_refl _), hbw⟩
end Go.Proofs.Ytjfgklhifhaaoaa
