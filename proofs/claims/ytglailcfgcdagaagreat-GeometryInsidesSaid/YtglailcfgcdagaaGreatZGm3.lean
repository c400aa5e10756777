/- Geometry: Meet in the package and in the reference. Conditions: none. -/
import Derived.Test.YtglailcfgcdagaaGreatZGD
import Derived.Test.YtglailcfgcdagaaGreatZAr10
set_option linter.unusedVariables false
set_option linter.unusedSimpArgs false
namespace Go.Proofs.YtglailcfgcdagaaGreat
open Go.RowKit Big
/-- a point and an error come back -/
def RetME (w : World) (q : List Int × Int) (e : Ending) (w' : World) : Prop := ∃ l : List ZE, l.length = 4 ∧ e = .returned (.tuple #[.agg (cellsM l).toArray, .int .i64 q.2]) ∧ l.map (·.z) = q.1 ∧ (∀ x ∈ l, x.ok w') ∧ Below w.heap.size w w'
theorem two_of {α : Type} {l : List α} (h : l.length = 2) : ∃ a b, l = [a, b] := by
 match l, h with
 | [a, b], _ => exact ⟨a, b, rfl⟩
/-- what Meet answers, as a list of numerators and denominators -/
def meetL (a b : Int × Int × Int) : List Int × Int :=
 if (a.1 = 0 ∧ a.2.1 = 0) ∨ (b.1 = 0 ∧ b.2.1 = 0) then ([0, 0, 0, 0], 1)
 else if mD a b = 0 then ([0, 0, 0, 0], 24)
 else ([(newE (mX a b) (mD a b)).1.1, ((newE (mX a b) (mD a b)).1.2 : Int), (newE (mY a b) (mD a b)).1.1, ((newE (mY a b) (mD a b)).1.2 : Int)], 0)
def lineB (a : Int × Int × Int) : Prop := i64B a.1 ∧ i64B a.2.1 ∧ i64B a.2.2
theorem det_bz {a b c d : Int} (ha : i64B a) (hb : i64B b) (hc : i64B c) (hd : i64B d) : Bz 1024 (a * b - c * d) := by
 have := ((bz_i64 ha).mul (bz_i64 hb)).sub ((bz_i64 hc).mul (bz_i64 hd))
 exact this.mono (by omega)
/-- two lines in their boxes -/
structure LnB (w : World) (a b : Int × Int × Int) (wr : World) : Prop where
 a0 : wr.cell? ⟨w.heap.size, 0, none⟩ = some (.int .i64 a.1)
 a1 : wr.cell? ⟨w.heap.size, 1, none⟩ = some (.int .i64 a.2.1)
 a2 : wr.cell? ⟨w.heap.size, 2, none⟩ = some (.int .i64 a.2.2)
 b0 : wr.cell? ⟨w.heap.size + 1, 0, none⟩ = some (.int .i64 b.1)
 b1 : wr.cell? ⟨w.heap.size + 1, 1, none⟩ = some (.int .i64 b.2.1)
 b2 : wr.cell? ⟨w.heap.size + 1, 2, none⟩ = some (.int .i64 b.2.2)
theorem LnB.below {w wr w1 : World} {a b : Int × Int × Int} (h : LnB w a b wr) (hb : Below wr.heap.size wr w1) : LnB w a b w1 := ⟨keep_cell hb h.a0, keep_cell hb h.a1, keep_cell hb h.a2, keep_cell hb h.b0, keep_cell hb h.b1, keep_cell hb h.b2⟩
set_option maxRecDepth 100000 in
set_option maxHeartbeats 8000000 in
theorem GMeet_g (a b : Int × Int × Int) (ha : lineB a) (hb : lineB b) (w : World) :
  Calls Tryz.prog 12 #[.agg #[.int .i64 a.1, .int .i64 a.2.1, .int .i64 a.2.2], .agg #[.int .i64 b.1, .int .i64 b.2.1, .int .i64 b.2.2]] w (RetME w (meetL a b)) := by
 obtain ⟨D, hD⟩ : ∃ D, mD a b = D := ⟨_, rfl⟩
 obtain ⟨X, hX⟩ : ∃ D, mX a b = D := ⟨_, rfl⟩
 obtain ⟨Y, hY⟩ : ∃ D, mY a b = D := ⟨_, rfl⟩
 have zD : Bz 1024 D := by rw [← hD]; exact det_bz ha.1 hb.2.1 ha.2.1 hb.1
 have zX : Bz 1024 X := by rw [← hX]; exact det_bz ha.2.2 hb.2.1 ha.2.1 hb.2.2
 have zY : Bz 1024 Y := by rw [← hY]; exact det_bz ha.1 hb.2.2 ha.2.2 hb.1
 obtain ⟨bD, nD, sD, ID⟩ := iz D
 obtain ⟨bX, nX, sX, IX⟩ := iz X
 obtain ⟨bY, nY, sY, IY⟩ := iz Y
 obtain ⟨A1, B1, C1⟩ := a
 obtain ⟨A2, B2, C2⟩ := b
 have HDt := hid fun (W : World) => (show Calls Tryz.prog 30 #[.int .i64 A1, .int .i64 B1, .int .i64 A2, .int .i64 B2] W (GZ W bD nD sD) from Gdet_g (by first | exact ha.1 | exact ha.2.1 | exact ha.2.2 | exact hb.1 | exact hb.2.1 | exact hb.2.2) (by first | exact ha.1 | exact ha.2.1 | exact ha.2.2 | exact hb.1 | exact hb.2.1 | exact hb.2.2) (by first | exact ha.1 | exact ha.2.1 | exact ha.2.2 | exact hb.1 | exact hb.2.1 | exact hb.2.2) (by first | exact ha.1 | exact ha.2.1 | exact ha.2.2 | exact hb.1 | exact hb.2.1 | exact hb.2.2) ID.out (by rw [← hD]; unfold mD; first | rfl | grind) W)
 have HX := hid fun (W : World) => (show Calls Tryz.prog 30 #[.int .i64 C1, .int .i64 B1, .int .i64 C2, .int .i64 B2] W (GZ W bX nX sX) from Gdet_g (by first | exact ha.1 | exact ha.2.1 | exact ha.2.2 | exact hb.1 | exact hb.2.1 | exact hb.2.2) (by first | exact ha.1 | exact ha.2.1 | exact ha.2.2 | exact hb.1 | exact hb.2.1 | exact hb.2.2) (by first | exact ha.1 | exact ha.2.1 | exact ha.2.2 | exact hb.1 | exact hb.2.1 | exact hb.2.2) (by first | exact ha.1 | exact ha.2.1 | exact ha.2.2 | exact hb.1 | exact hb.2.1 | exact hb.2.2) IX.out (by rw [← hX]; unfold mX; first | rfl | grind) W)
 have HY := hid fun (W : World) => (show Calls Tryz.prog 30 #[.int .i64 A1, .int .i64 C1, .int .i64 A2, .int .i64 C2] W (GZ W bY nY sY) from Gdet_g (by first | exact ha.1 | exact ha.2.1 | exact ha.2.2 | exact hb.1 | exact hb.2.1 | exact hb.2.2) (by first | exact ha.1 | exact ha.2.1 | exact ha.2.2 | exact hb.1 | exact hb.2.1 | exact hb.2.2) (by first | exact ha.1 | exact ha.2.1 | exact ha.2.2 | exact hb.1 | exact hb.2.1 | exact hb.2.2) (by first | exact ha.1 | exact ha.2.1 | exact ha.2.2 | exact hb.1 | exact hb.2.1 | exact hb.2.2) IY.out (by rw [← hY]; unfold mY; first | rfl | grind) W)
 have hE1 := hid fun (h : (A1 = 0 ∧ B1 = 0) ∨ (A2 = 0 ∧ B2 = 0)) => (show meetL (A1, B1, C1) (A2, B2, C2) = ([0, 0, 0, 0], 1) by unfold meetL; rw [if_pos h])
 have hE2 := hid fun (h : ¬((A1 = 0 ∧ B1 = 0) ∨ (A2 = 0 ∧ B2 = 0))) (h0 : D = 0) => (show meetL (A1, B1, C1) (A2, B2, C2) = ([0, 0, 0, 0], 24) by unfold meetL; rw [if_neg h, hD, if_pos h0])
 have hE3 := hid fun (h : ¬((A1 = 0 ∧ B1 = 0) ∨ (A2 = 0 ∧ B2 = 0))) (h0 : ¬ D = 0) => (show meetL (A1, B1, C1) (A2, B2, C2) = ([(newE X D).1.1, ((newE X D).1.2 : Int), (newE Y D).1.1, ((newE Y D).1.2 : Int)], 0) by unfold meetL; rw [if_neg h, hD, if_neg h0, hX, hY])
 obtain ⟨Pb, Pk, PL, Pl, PY, PI⟩ := fz (newE X D).1
 obtain ⟨Qb, Qk, QL, Ql, QY, QI⟩ := fz (newE Y D).1
 have HN0 := hid fun (h0 : ¬ D = 0) (W : World) (R Q : Option Addr) (c d : Nat) (m1 : Mg W R c sX) (m2 : Mg W Q d sD) => GNew_z (w1 := W) IX.out ID.out (zX.ft (by omega)) (zD.ft (by omega)) (show newE X D = ((newE X D).1, 0) from Prod.ext rfl (newE_bz zX zD h0 (by omega)).1) PI.out m1 m2
 have HN1 := hid fun (h0 : ¬ D = 0) (W : World) (R Q : Option Addr) (c d : Nat) (m1 : Mg W R c sY) (m2 : Mg W Q d sD) => GNew_z (w1 := W) IY.out ID.out (zY.ft (by omega)) (zD.ft (by omega)) (show newE Y D = ((newE Y D).1, 0) from Prod.ext rfl (newE_bz zY zD h0 (by omega)).1) QI.out m1 m2
 have hnz : nD = 0 ↔ D = 0 := ID.out.zero
 clear hD hX hY zD zX zY ha hb ID IX IY
 generalize meetL (A1, B1, C1) (A2, B2, C2) = E at *
 dsimp only
 go_enter Tryz.func12, Tryz.ntmps12
 go_upto_region 1 with fail
 refine enterR3 (P := fun u => Code.wp _ _ _ _ u) (c0 := [.int .i64 A1, .int .i64 B1, .int .i64 C1]) (c1 := [.int .i64 A2, .int .i64 B2, .int .i64 C2]) (c2 := [.bool false, .slice none 0 0, .bool false, .slice none 0 0, .bool false, .slice none 0 0, .bool false, .slice none 0 0]) ?_
 intro u HB r0 r1 rk zn0 zn1 znk hsz
 have hL : LnB w (A1, B1, C1) (A2, B2, C2) u := ⟨r0 0 _ rfl, r0 1 _ rfl, r0 2 _ rfl, r1 0 _ rfl, r1 1 _ rfl, r1 2 _ rfl⟩
 clear hsz zn0 zn1 r0 r1
 have a0 := hL.a0
 have a1 := hL.a1
 have a2 := hL.a2
 have b0 := hL.b0
 have b1 := hL.b1
 have b2 := hL.b2
 dsimp only at a0 a1 a2 b0 b1 b2
 by_cases hc : (A1 = 0 ∧ B1 = 0) ∨ (A2 = 0 ∧ B2 = 0)
 ·obtain rfl := hE1.out hc
  have HR := hid (show (([0, 0, 0, 0], 1) : List Int × Int) = ([0, 0, 0, 0], 1) from rfl)
  clear hE1 hE2 hE3 HDt HX HY HN0 HN1 PI QI hnz hL
  rcases hc with ⟨h1, h2⟩ | ⟨h1, h2⟩
  ·subst h1 h2
   have F := fin_M (w := w) (l := [ZE.zero, ZE.zero, ZE.zero, ZE.zero]) HB (by omega) rk znk rfl (cellsM_npl [ZE.zero, ZE.zero, ZE.zero, ZE.zero]) (fun e he => by simp only [List.mem_cons, List.not_mem_nil, or_false] at he; rcases he with rfl | rfl | rfl | rfl <;> exact ZE.zero_ok _)
   obtain ⟨F1, F2, F3, F4⟩ := F
   have n0 := rk 0 _ rfl
   have n1 := rk 1 _ rfl
   have n2 := rk 2 _ rfl
   have n3 := rk 3 _ rfl
   have n4 := rk 4 _ rfl
   have n5 := rk 5 _ rfl
   have n6 := rk 6 _ rfl
   have n7 := rk 7 _ rfl
   have fzk := znk.fr
   have ltk := znk.lt
   simp only [Nat.zero_add] at n0 n1 n2 n3 n4 n5 n6 n7
   simp only [cellsM, ZE.cells, ZE.zero, List.cons_append, List.nil_append, World.setCells, Nat.zero_add, Nat.reduceAdd] at F1 F2 F3
   have HFz := hid (And.intro F1 F3)
   have p0 := F2 0 _ rfl
   have p1 := F2 1 _ rfl
   have p2 := F2 2 _ rfl
   have p3 := F2 3 _ rfl
   have p4 := F2 4 _ rfl
   have p5 := F2 5 _ rfl
   have p6 := F2 6 _ rfl
   have p7 := F2 7 _ rfl
   simp only [Nat.zero_add] at p0 p1 p2 p3 p4 p5 p6 p7
   have PZ := hid (And.intro p0 (And.intro p1 (And.intro p2 (And.intro p3 (And.intro p4 (And.intro p5 (And.intro p6 p7)))))))
   clear rk znk HB F1 F2 F3 F4 p0 p1 p2 p3 p4 p5 p6 p7
   go_wp2
   obtain ⟨p0, p1, p2, p3, p4, p5, p6, p7⟩ := PZ.out
   refine bodyPost_ret (v := .tuple #[.agg #[.bool false, .slice none 0 0, .bool false, .slice none 0 0, .bool false, .slice none 0 0, .bool false, .slice none 0 0], .int .i64 1]) ?_ rfl ?_
   ·simp [results, Tryz.results12, go_sem, p0, p1, p2, p3, p4, p5, p6, p7]
   ·first | rw [HR.out] | skip
    exact ⟨[ZE.zero, ZE.zero, ZE.zero, ZE.zero], rfl, rfl, rfl, HFz.out.2, HFz.out.1⟩
  ·subst h1 h2
   by_cases h3 : A1 = 0
   ·subst h3
    by_cases h4 : B1 = 0
    ·subst h4
     have F := fin_M (w := w) (l := [ZE.zero, ZE.zero, ZE.zero, ZE.zero]) HB (by omega) rk znk rfl (cellsM_npl [ZE.zero, ZE.zero, ZE.zero, ZE.zero]) (fun e he => by simp only [List.mem_cons, List.not_mem_nil, or_false] at he; rcases he with rfl | rfl | rfl | rfl <;> exact ZE.zero_ok _)
     obtain ⟨F1, F2, F3, F4⟩ := F
     have n0 := rk 0 _ rfl
     have n1 := rk 1 _ rfl
     have n2 := rk 2 _ rfl
     have n3 := rk 3 _ rfl
     have n4 := rk 4 _ rfl
     have n5 := rk 5 _ rfl
     have n6 := rk 6 _ rfl
     have n7 := rk 7 _ rfl
     have fzk := znk.fr
     have ltk := znk.lt
     simp only [Nat.zero_add] at n0 n1 n2 n3 n4 n5 n6 n7
     simp only [cellsM, ZE.cells, ZE.zero, List.cons_append, List.nil_append, World.setCells, Nat.zero_add, Nat.reduceAdd] at F1 F2 F3
     have HFz := hid (And.intro F1 F3)
     have p0 := F2 0 _ rfl
     have p1 := F2 1 _ rfl
     have p2 := F2 2 _ rfl
     have p3 := F2 3 _ rfl
     have p4 := F2 4 _ rfl
     have p5 := F2 5 _ rfl
     have p6 := F2 6 _ rfl
     have p7 := F2 7 _ rfl
     simp only [Nat.zero_add] at p0 p1 p2 p3 p4 p5 p6 p7
     have PZ := hid (And.intro p0 (And.intro p1 (And.intro p2 (And.intro p3 (And.intro p4 (And.intro p5 (And.intro p6 p7)))))))
     clear rk znk HB F1 F2 F3 F4 p0 p1 p2 p3 p4 p5 p6 p7
     go_wp2
     obtain ⟨p0, p1, p2, p3, p4, p5, p6, p7⟩ := PZ.out
     refine bodyPost_ret (v := .tuple #[.agg #[.bool false, .slice none 0 0, .bool false, .slice none 0 0, .bool false, .slice none 0 0, .bool false, .slice none 0 0], .int .i64 1]) ?_ rfl ?_
     ·simp [results, Tryz.results12, go_sem, p0, p1, p2, p3, p4, p5, p6, p7]
     ·first | rw [HR.out] | skip
      exact ⟨[ZE.zero, ZE.zero, ZE.zero, ZE.zero], rfl, rfl, rfl, HFz.out.2, HFz.out.1⟩
    ·have h4b : (B1 == 0) = false := beq_eq_false_iff_ne.2 h4
     have F := fin_M (w := w) (l := [ZE.zero, ZE.zero, ZE.zero, ZE.zero]) HB (by omega) rk znk rfl (cellsM_npl [ZE.zero, ZE.zero, ZE.zero, ZE.zero]) (fun e he => by simp only [List.mem_cons, List.not_mem_nil, or_false] at he; rcases he with rfl | rfl | rfl | rfl <;> exact ZE.zero_ok _)
     obtain ⟨F1, F2, F3, F4⟩ := F
     have n0 := rk 0 _ rfl
     have n1 := rk 1 _ rfl
     have n2 := rk 2 _ rfl
     have n3 := rk 3 _ rfl
     have n4 := rk 4 _ rfl
     have n5 := rk 5 _ rfl
     have n6 := rk 6 _ rfl
     have n7 := rk 7 _ rfl
     have fzk := znk.fr
     have ltk := znk.lt
     simp only [Nat.zero_add] at n0 n1 n2 n3 n4 n5 n6 n7
     simp only [cellsM, ZE.cells, ZE.zero, List.cons_append, List.nil_append, World.setCells, Nat.zero_add, Nat.reduceAdd] at F1 F2 F3
     have HFz := hid (And.intro F1 F3)
     have p0 := F2 0 _ rfl
     have p1 := F2 1 _ rfl
     have p2 := F2 2 _ rfl
     have p3 := F2 3 _ rfl
     have p4 := F2 4 _ rfl
     have p5 := F2 5 _ rfl
     have p6 := F2 6 _ rfl
     have p7 := F2 7 _ rfl
     simp only [Nat.zero_add] at p0 p1 p2 p3 p4 p5 p6 p7
     have PZ := hid (And.intro p0 (And.intro p1 (And.intro p2 (And.intro p3 (And.intro p4 (And.intro p5 (And.intro p6 p7)))))))
     clear rk znk HB F1 F2 F3 F4 p0 p1 p2 p3 p4 p5 p6 p7
     go_wp2
     obtain ⟨p0, p1, p2, p3, p4, p5, p6, p7⟩ := PZ.out
     refine bodyPost_ret (v := .tuple #[.agg #[.bool false, .slice none 0 0, .bool false, .slice none 0 0, .bool false, .slice none 0 0, .bool false, .slice none 0 0], .int .i64 1]) ?_ rfl ?_
     ·simp [results, Tryz.results12, go_sem, p0, p1, p2, p3, p4, p5, p6, p7]
     ·first | rw [HR.out] | skip
      exact ⟨[ZE.zero, ZE.zero, ZE.zero, ZE.zero], rfl, rfl, rfl, HFz.out.2, HFz.out.1⟩
   ·have h3b : (A1 == 0) = false := beq_eq_false_iff_ne.2 h3
    have F := fin_M (w := w) (l := [ZE.zero, ZE.zero, ZE.zero, ZE.zero]) HB (by omega) rk znk rfl (cellsM_npl [ZE.zero, ZE.zero, ZE.zero, ZE.zero]) (fun e he => by simp only [List.mem_cons, List.not_mem_nil, or_false] at he; rcases he with rfl | rfl | rfl | rfl <;> exact ZE.zero_ok _)
    obtain ⟨F1, F2, F3, F4⟩ := F
    have n0 := rk 0 _ rfl
    have n1 := rk 1 _ rfl
    have n2 := rk 2 _ rfl
    have n3 := rk 3 _ rfl
    have n4 := rk 4 _ rfl
    have n5 := rk 5 _ rfl
    have n6 := rk 6 _ rfl
    have n7 := rk 7 _ rfl
    have fzk := znk.fr
    have ltk := znk.lt
    simp only [Nat.zero_add] at n0 n1 n2 n3 n4 n5 n6 n7
    simp only [cellsM, ZE.cells, ZE.zero, List.cons_append, List.nil_append, World.setCells, Nat.zero_add, Nat.reduceAdd] at F1 F2 F3
    have HFz := hid (And.intro F1 F3)
    have p0 := F2 0 _ rfl
    have p1 := F2 1 _ rfl
    have p2 := F2 2 _ rfl
    have p3 := F2 3 _ rfl
    have p4 := F2 4 _ rfl
    have p5 := F2 5 _ rfl
    have p6 := F2 6 _ rfl
    have p7 := F2 7 _ rfl
    simp only [Nat.zero_add] at p0 p1 p2 p3 p4 p5 p6 p7
    have PZ := hid (And.intro p0 (And.intro p1 (And.intro p2 (And.intro p3 (And.intro p4 (And.intro p5 (And.intro p6 p7)))))))
    clear rk znk HB F1 F2 F3 F4 p0 p1 p2 p3 p4 p5 p6 p7
    go_wp2
    obtain ⟨p0, p1, p2, p3, p4, p5, p6, p7⟩ := PZ.out
    refine bodyPost_ret (v := .tuple #[.agg #[.bool false, .slice none 0 0, .bool false, .slice none 0 0, .bool false, .slice none 0 0, .bool false, .slice none 0 0], .int .i64 1]) ?_ rfl ?_
    ·simp [results, Tryz.results12, go_sem, p0, p1, p2, p3, p4, p5, p6, p7]
    ·first | rw [HR.out] | skip
     exact ⟨[ZE.zero, ZE.zero, ZE.zero, ZE.zero], rfl, rfl, rfl, HFz.out.2, HFz.out.1⟩
 ·skip
  go_cut [27] (fun s wx => s = .bool false ∧ wx = u)
  case first =>
   by_cases z1 : A1 = 0
   ·by_cases z2 : B1 = 0
    ·exact absurd (Or.inl ⟨z1, z2⟩) hc
    ·by_cases z3 : A2 = 0
     ·by_cases z4 : B2 = 0
      ·exact absurd (Or.inr ⟨z3, z4⟩) hc
      ·subst z1 z3
       have y2 : (B1 == 0) = false := beq_eq_false_iff_ne.2 z2
       have y4 : (B2 == 0) = false := beq_eq_false_iff_ne.2 z4
       clear hc
       go_wp2_with fail
       go_meet
       exact ⟨rfl, rfl⟩
     ·subst z1
      have y2 : (B1 == 0) = false := beq_eq_false_iff_ne.2 z2
      have y3 : (A2 == 0) = false := beq_eq_false_iff_ne.2 z3
      clear hc
      go_wp2_with fail
      go_meet
      exact ⟨rfl, rfl⟩
   ·have y1 : (A1 == 0) = false := beq_eq_false_iff_ne.2 z1
    by_cases z3 : A2 = 0
    ·by_cases z4 : B2 = 0
     ·exact absurd (Or.inr ⟨z3, z4⟩) hc
     ·subst z3
      have y4 : (B2 == 0) = false := beq_eq_false_iff_ne.2 z4
      clear hc
      go_wp2_with fail
      go_meet
      exact ⟨rfl, rfl⟩
    ·have y3 : (A2 == 0) = false := beq_eq_false_iff_ne.2 z3
     clear hc
     go_wp2_with fail
     go_meet
     exact ⟨rfl, rfl⟩
  case rest =>
   obtain ⟨rfl, rfl⟩ := hcut
   go_wp2_with fail
   refine (HDt.out _).mono ?_
   rintro e v1 ⟨RD, cD, rfl, mD, hv⟩
   replace hL := hL.below hv
   have rk := rng_below rk hv
   have znk := znk.below hv
   have HB := bel_step HB hv
   clear hv HDt a0 a1 a2 b0 b1 b2
   go_upto_region 4 with fail
   refine enterR (P := fun u => Code.wp _ _ _ _ u) (c := [.bool bD, .slice RD nD cD]) ?_
   intro v2 hv r4 zn4 hsz
   replace hL := hL.below hv
   have rk := rng_below rk hv
   have znk := znk.below hv
   have HB := bel_step HB hv
   replace mD := mD.below hv
   have d0 := r4 0 _ rfl
   have d1 := r4 1 _ rfl
   simp only [Nat.zero_add] at d0 d1
   clear hv r4 zn4 hsz
   generalize v1.heap.size = gd at *
   by_cases hD0 : D = 0
   ·obtain rfl := hE2.out hc hD0
    have HR := hid (show (([0, 0, 0, 0], 24) : List Int × Int) = ([0, 0, 0, 0], 24) from rfl)
    have hn0 : ((nD : Int) == 0) = true := by rw [hnz.2 hD0]; rfl
    clear hE1 hE2 hE3 HX HY HN0 HN1 PI QI hnz hD0 hc hL mD
    have F := fin_M (w := w) (l := [ZE.zero, ZE.zero, ZE.zero, ZE.zero]) HB (by omega) rk znk rfl (cellsM_npl [ZE.zero, ZE.zero, ZE.zero, ZE.zero]) (fun e he => by simp only [List.mem_cons, List.not_mem_nil, or_false] at he; rcases he with rfl | rfl | rfl | rfl <;> exact ZE.zero_ok _)
    obtain ⟨F1, F2, F3, F4⟩ := F
    have n0 := rk 0 _ rfl
    have n1 := rk 1 _ rfl
    have n2 := rk 2 _ rfl
    have n3 := rk 3 _ rfl
    have n4 := rk 4 _ rfl
    have n5 := rk 5 _ rfl
    have n6 := rk 6 _ rfl
    have n7 := rk 7 _ rfl
    have fzk := znk.fr
    have ltk := znk.lt
    simp only [Nat.zero_add] at n0 n1 n2 n3 n4 n5 n6 n7
    simp only [cellsM, ZE.cells, ZE.zero, List.cons_append, List.nil_append, World.setCells, Nat.zero_add, Nat.reduceAdd] at F1 F2 F3
    have HFz := hid (And.intro F1 F3)
    have p0 := F2 0 _ rfl
    have p1 := F2 1 _ rfl
    have p2 := F2 2 _ rfl
    have p3 := F2 3 _ rfl
    have p4 := F2 4 _ rfl
    have p5 := F2 5 _ rfl
    have p6 := F2 6 _ rfl
    have p7 := F2 7 _ rfl
    simp only [Nat.zero_add] at p0 p1 p2 p3 p4 p5 p6 p7
    have PZ := hid (And.intro p0 (And.intro p1 (And.intro p2 (And.intro p3 (And.intro p4 (And.intro p5 (And.intro p6 p7)))))))
    clear rk znk HB F1 F2 F3 F4 p0 p1 p2 p3 p4 p5 p6 p7
    go_wp2
    obtain ⟨p0, p1, p2, p3, p4, p5, p6, p7⟩ := PZ.out
    refine bodyPost_ret (v := .tuple #[.agg #[.bool false, .slice none 0 0, .bool false, .slice none 0 0, .bool false, .slice none 0 0, .bool false, .slice none 0 0], .int .i64 24]) ?_ rfl ?_
    ·simp [results, Tryz.results12, go_sem, p0, p1, p2, p3, p4, p5, p6, p7]
    ·first | rw [HR.out] | skip
     exact ⟨[ZE.zero, ZE.zero, ZE.zero, ZE.zero], rfl, rfl, rfl, HFz.out.2, HFz.out.1⟩
   ·have HR := hid (hE3.out hc hD0)
    have hn1 : ((nD : Int) == 0) = false := by rw [beq_eq_false_iff_ne]; have := fun h => hD0 (hnz.1 h); omega
    replace HN0 := hid (HN0.out hD0)
    replace HN1 := hid (HN1.out hD0)
    clear hE1 hE2 hE3 hnz hD0 hc
    go_upto_region 6 with fail
    have a0 := hL.a0
    have a1 := hL.a1
    have a2 := hL.a2
    have b0 := hL.b0
    have b1 := hL.b1
    have b2 := hL.b2
    dsimp only at a0 a1 a2 b0 b1 b2
    have ltv := znk.lt
    replace HN0 := hid fun (W : World) (h : Below v2.heap.size v2 W) (R : Option Addr) (c : Nat) (m : Mg W R c sX) => HN0.out W R RD c cD m (mD.below h)
    replace HN1 := hid fun (W : World) (h : Below v2.heap.size v2 W) (R : Option Addr) (c : Nat) (m : Mg W R c sY) => HN1.out W R RD c cD m (mD.below h)
    go_cut [7, 8] (fun s t wx => t = .int .i64 0 ∧ ∃ g : Nat, s = .pointer (some ⟨g, 0, none⟩) ∧ Blk v2 g [(newE X D).1.1, ((newE X D).1.2 : Int)] wx)
    case first =>
     have HB0 := Below.refl v2.heap.size v2
     have ltg := cell_lt d0
     go_region_held3 (fun w' => ((w'.cell? ⟨gd, 0, none⟩ = some (.bool bD) ∧ w'.cell? ⟨gd, 1, none⟩ = some (.slice RD nD cD))) ∧ (w'.cell? ⟨w.heap.size, 0, none⟩ = some (.int .i64 A1) ∧ w'.cell? ⟨w.heap.size, 1, none⟩ = some (.int .i64 B1) ∧ w'.cell? ⟨w.heap.size, 2, none⟩ = some (.int .i64 C1)) ∧ (w'.cell? ⟨w.heap.size + 1, 0, none⟩ = some (.int .i64 A2) ∧ w'.cell? ⟨w.heap.size + 1, 1, none⟩ = some (.int .i64 B2) ∧ w'.cell? ⟨w.heap.size + 1, 2, none⟩ = some (.int .i64 C2))) (first | ((try dsimp only); repeat' (first | with_reducible assumption | apply And.intro | (with_reducible refine keep_alloc ?_) | (with_reducible refine keep_drew ?_) | (with_reducible refine keep_set (by omega) ?_) | (with_reducible refine keep_sets (by omega) ?_) | (with_reducible refine keep_cell (W := v2) ?_ ?_) | fail))) (first | (go_at_call 30; (with_reducible refine (HX.out _).mono ?_); rintro e v5 ⟨R1, d1, rfl, m1, hq1⟩; have qv1 : Below v2.heap.size v2 v5 := bel_step BG hq1; have hs1 := qv1.size; (try refine And.elim (fun ra za => ?_) (alloc_drew hq1)); (try refine And.elim (fun ra za => ?_) (alloc_plain hq1))) | (go_at_call 31; (with_reducible refine (HN0.out _ (bel_step HB0 BG) _ _ (m1.below BG)).mono ?_); rintro e v6 ⟨R2, d2, R3, d3, rfl, m2, m3, hq2⟩; have qv2 : Below v2.heap.size v2 v6 := bel_step BG hq2; have hs2 := qv2.size; have wv2 : Below v5.heap.size v5 v6 := bel_step BG hq2; have hp2 := wv2.size; (try refine (fun ra za => ?_ : _ → _ → _) (rng_below ra wv2) (Zn.below za wv2)); (try refine And.elim (fun ra za => ?_) (alloc_drew hq2)); (try refine And.elim (fun ra za => ?_) (alloc_plain hq2)); (try (refine (fun k0 k1 k2 k3 fa => ?_ : _ → _ → _ → _ → _ → _) (ra 0 _ rfl) (ra 1 _ rfl) (ra 2 _ rfl) (ra 3 _ rfl) (Zn.fr za); simp only [Nat.zero_add] at k0 k1 k2 k3))))
     all_goals
      go_wp2_with fail
      go_meet
     all_goals
      first
      | exact ⟨rfl, _, rfl, Blk.new2 (e := ⟨_, Pb, Pk, PL, R2, d2⟩) (f := ⟨_, false, Pl, PY, R3, d3⟩) qv2 ⟨PI.out.num, m2⟩ ⟨PI.out.den, m3⟩⟩
      | exact ⟨rfl, _, rfl, Blk.set2 (e := ⟨_, Pb, Pk, PL, R2, d2⟩) (f := ⟨_, false, Pl, PY, R3, d3⟩) ra za qv2 (by omega) ⟨PI.out.num, m2⟩ ⟨PI.out.den, m3⟩⟩
    case rest =>
     obtain ⟨rfl, gx, rfl, hU⟩ := hcut
     have hXb := hU.b
     replace hL := hL.below hXb
     have rk := rng_below rk hXb
     have znk := znk.below hXb
     have HB := bel_step HB hXb
     have d0 := keep_cell hXb d0
     have d1 := keep_cell hXb d1
     clear a0 a1 a2 b0 b1 b2
     have a0 := hL.a0
     have a1 := hL.a1
     have a2 := hL.a2
     have b0 := hL.b0
     have b1 := hL.b1
     have b2 := hL.b2
     dsimp only at a0 a1 a2 b0 b1 b2
     have ltv := znk.lt
     obtain ⟨wX, hwX⟩ : ∃ wX : World, wX = wc := ⟨_, rfl⟩
     subst hwX
     go_upto_region 9 with fail
     replace HN1 := hid fun (W : World) (h : Below wX.heap.size wX W) (R : Option Addr) (c : Nat) (m : Mg W R c sY) => HN1.out W (bel_step hXb h) R c m
     go_cut [9, 8] (fun s t wx => t = .int .i64 0 ∧ ∃ g : Nat, s = .pointer (some ⟨g, 0, none⟩) ∧ Blk wX g [(newE Y D).1.1, ((newE Y D).1.2 : Int)] wx)
     case first =>
      have HB0 := Below.refl wX.heap.size wX
      have ltg := cell_lt d0
      go_region_held3 (fun w' => ((w'.cell? ⟨gd, 0, none⟩ = some (.bool bD) ∧ w'.cell? ⟨gd, 1, none⟩ = some (.slice RD nD cD))) ∧ (w'.cell? ⟨w.heap.size, 0, none⟩ = some (.int .i64 A1) ∧ w'.cell? ⟨w.heap.size, 1, none⟩ = some (.int .i64 B1) ∧ w'.cell? ⟨w.heap.size, 2, none⟩ = some (.int .i64 C1)) ∧ (w'.cell? ⟨w.heap.size + 1, 0, none⟩ = some (.int .i64 A2) ∧ w'.cell? ⟨w.heap.size + 1, 1, none⟩ = some (.int .i64 B2) ∧ w'.cell? ⟨w.heap.size + 1, 2, none⟩ = some (.int .i64 C2))) (first | ((try dsimp only); repeat' (first | with_reducible assumption | apply And.intro | (with_reducible refine keep_alloc ?_) | (with_reducible refine keep_drew ?_) | (with_reducible refine keep_set (by omega) ?_) | (with_reducible refine keep_sets (by omega) ?_) | (with_reducible refine keep_cell (W := wX) ?_ ?_) | fail))) (first | (go_at_call 30; (with_reducible refine (HY.out _).mono ?_); rintro e v5 ⟨R1, d1, rfl, m1, hq1⟩; have qv1 : Below wX.heap.size wX v5 := bel_step BG hq1; have hs1 := qv1.size; (try refine And.elim (fun ra za => ?_) (alloc_drew hq1)); (try refine And.elim (fun ra za => ?_) (alloc_plain hq1))) | (go_at_call 31; (with_reducible refine (HN1.out _ (bel_step HB0 BG) _ _ (m1.below BG)).mono ?_); rintro e v6 ⟨R2, d2, R3, d3, rfl, m2, m3, hq2⟩; have qv2 : Below wX.heap.size wX v6 := bel_step BG hq2; have hs2 := qv2.size; have wv2 : Below v5.heap.size v5 v6 := bel_step BG hq2; have hp2 := wv2.size; (try refine (fun ra za => ?_ : _ → _ → _) (rng_below ra wv2) (Zn.below za wv2)); (try refine And.elim (fun ra za => ?_) (alloc_drew hq2)); (try refine And.elim (fun ra za => ?_) (alloc_plain hq2)); (try (refine (fun k0 k1 k2 k3 fa => ?_ : _ → _ → _ → _ → _ → _) (ra 0 _ rfl) (ra 1 _ rfl) (ra 2 _ rfl) (ra 3 _ rfl) (Zn.fr za); simp only [Nat.zero_add] at k0 k1 k2 k3))))
      all_goals
       go_wp2_with fail
       go_meet
      all_goals
       first
       | exact ⟨rfl, _, rfl, Blk.new2 (e := ⟨_, Qb, Qk, QL, R2, d2⟩) (f := ⟨_, false, Ql, QY, R3, d3⟩) qv2 ⟨QI.out.num, m2⟩ ⟨QI.out.den, m3⟩⟩
       | exact ⟨rfl, _, rfl, Blk.set2 (e := ⟨_, Qb, Qk, QL, R2, d2⟩) (f := ⟨_, false, Ql, QY, R3, d3⟩) ra za qv2 (by omega) ⟨QI.out.num, m2⟩ ⟨QI.out.den, m3⟩⟩
     case rest =>
      obtain ⟨ht2, gy, rfl, hV⟩ := hcut
      subst ht2
      have hYb := hV.b
      have hU := hU.below hYb
      have rk := rng_below rk hYb
      have znk := znk.below hYb
      have HB := bel_step HB hYb
      obtain ⟨fx, cx, ox, zx⟩ := hU.ex
      obtain ⟨fy, cy, oy, zy⟩ := hV.ex
      obtain ⟨ex0, ex1, rfl⟩ : ∃ a b, fx = [a, b] := two_of (by simpa using congrArg List.length zx)
      obtain ⟨ey0, ey1, rfl⟩ : ∃ a b, fy = [a, b] := two_of (by simpa using congrArg List.length zy)
      have ox0 := ox ex0 (by simp)
      have ox1 := ox ex1 (by simp)
      have oy0 := oy ey0 (by simp)
      have oy1 := oy ey1 (by simp)
      simp only [List.map_cons, List.map_nil, List.cons.injEq, and_true] at zx zy
      have i0 : wc.cell? ⟨gx, 0, none⟩ = some (.bool ex0.b) := cx 0 _ rfl
      have i1 : wc.cell? ⟨gx, 1, none⟩ = some (.slice ex0.A ex0.n ex0.c) := cx 1 _ rfl
      have i2 : wc.cell? ⟨gx, 2, none⟩ = some (.bool ex1.b) := cx 2 _ rfl
      have i3 : wc.cell? ⟨gx, 3, none⟩ = some (.slice ex1.A ex1.n ex1.c) := cx 3 _ rfl
      have j0 : wc.cell? ⟨gy, 0, none⟩ = some (.bool ey0.b) := cy 0 _ rfl
      have j1 : wc.cell? ⟨gy, 1, none⟩ = some (.slice ey0.A ey0.n ey0.c) := cy 1 _ rfl
      have j2 : wc.cell? ⟨gy, 2, none⟩ = some (.bool ey1.b) := cy 2 _ rfl
      have j3 : wc.cell? ⟨gy, 3, none⟩ = some (.slice ey1.A ey1.n ey1.c) := cy 3 _ rfl
      have HR := hid (show E = ([ex0.z, ex1.z, ey0.z, ey1.z], 0) by rw [HR.out, zx.1, zx.2, zy.1, zy.2])
      have hok : ∀ e ∈ [ex0, ex1, ey0, ey1], e.ok wc := by
       intro e he
       simp only [List.mem_cons, List.not_mem_nil, or_false] at he
       rcases he with rfl | rfl | rfl | rfl
       ·exact ox0
       ·exact ox1
       ·exact oy0
       ·exact oy1
      clear zx zy hU hV cx cy ox oy ox0 ox1 oy0 oy1 HX HY HN0 HN1 PI QI hXb hYb d0 d1 a0 a1 a2 b0 b1 b2 hL mD ltv
      have F := fin_M (w := w) (l := [ex0, ex1, ey0, ey1]) HB (by omega) rk znk rfl (cellsM_npl [ZE.zero, ZE.zero, ZE.zero, ZE.zero]) hok
      obtain ⟨F1, F2, F3, F4⟩ := F
      have n0 := rk 0 _ rfl
      have n1 := rk 1 _ rfl
      have n2 := rk 2 _ rfl
      have n3 := rk 3 _ rfl
      have n4 := rk 4 _ rfl
      have n5 := rk 5 _ rfl
      have n6 := rk 6 _ rfl
      have n7 := rk 7 _ rfl
      have fzk := znk.fr
      have ltk := znk.lt
      simp only [Nat.zero_add] at n0 n1 n2 n3 n4 n5 n6 n7
      simp only [cellsM, ZE.cells, ZE.zero, List.cons_append, List.nil_append, World.setCells, Nat.zero_add, Nat.reduceAdd] at F1 F2 F3
      have HFz := hid (And.intro F1 F3)
      have p0 := F2 0 _ rfl
      have p1 := F2 1 _ rfl
      have p2 := F2 2 _ rfl
      have p3 := F2 3 _ rfl
      have p4 := F2 4 _ rfl
      have p5 := F2 5 _ rfl
      have p6 := F2 6 _ rfl
      have p7 := F2 7 _ rfl
      simp only [Nat.zero_add] at p0 p1 p2 p3 p4 p5 p6 p7
      have PZ := hid (And.intro p0 (And.intro p1 (And.intro p2 (And.intro p3 (And.intro p4 (And.intro p5 (And.intro p6 p7)))))))
      clear rk znk HB F1 F2 F3 F4 p0 p1 p2 p3 p4 p5 p6 p7
      go_wp2
      obtain ⟨p0, p1, p2, p3, p4, p5, p6, p7⟩ := PZ.out
      refine bodyPost_ret (v := .tuple #[.agg #[.bool ex0.b, .slice ex0.A ex0.n ex0.c, .bool ex1.b, .slice ex1.A ex1.n ex1.c, .bool ey0.b, .slice ey0.A ey0.n ey0.c, .bool ey1.b, .slice ey1.A ey1.n ey1.c], .int .i64 0]) ?_ rfl ?_
      ·simp [results, Tryz.results12, go_sem, p0, p1, p2, p3, p4, p5, p6, p7]
      ·first | rw [HR.out] | skip
       exact ⟨[ex0, ex1, ey0, ey1], rfl, rfl, rfl, HFz.out.2, HFz.out.1⟩
end Go.Proofs.YtglailcfgcdagaaGreat
