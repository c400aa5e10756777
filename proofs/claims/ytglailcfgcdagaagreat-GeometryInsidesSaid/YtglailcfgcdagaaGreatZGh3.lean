/- Geometry: the reference's next and hull, and Hull in the package and in the reference. Conditions: none. -/
import Derived.Test.YtglailcfgcdagaaGreatZGG
set_option linter.unusedVariables false
set_option linter.unusedSimpArgs false
namespace Go.Proofs.YtglailcfgcdagaaGreat
open Go.RowKit Big
def RetPt (w : World) (q : Int × Int) (e : Ending) (w' : World) : Prop := e = .returned (.agg #[.int .i64 q.1, .int .i64 q.2]) ∧ Below w.heap.size w w'
def RetRE (w : World) (q : List (Int × Int) × Int) (e : Ending) (w' : World) : Prop := ∃ v, e = .returned (.tuple #[v, .int .i64 q.2]) ∧ OwnP w' w.heap.size v q.1 ∧ Below w.heap.size w w'
theorem chkP_zero {l : List (Int × Int)} (h : chkP l = 0) : l.length ≤ 4096 ∧ ∀ p ∈ l, inP p = true := by
 unfold chkP at h
 split at h
 ·omega
 ·split at h
  ·rename_i h2
   exact ⟨by omega, fun p hp => List.all_eq_true.1 h2 p hp⟩
  ·omega
/-- the best corner behind j points -/
def bstP (l : List (Int × Int)) (p : Int × Int) (j : Nat) : Int × Int := (l.take j).foldl (nxS p) p
theorem bst_succ {l : List (Int × Int)} {p : Int × Int} {j : Nat} (h : j < l.length) : bstP l p (j + 1) = nxS p (bstP l p j) l[j] := by
 unfold bstP
 rw [List.take_succ_eq_append_getElem h, List.foldl_append]; rfl
theorem bst_all (l : List (Int × Int)) (p : Int × Int) : bstP l p l.length = nxtP l p := by unfold bstP nxtP; rw [List.take_length]
theorem nxS_in {p b s : Int × Int} (hb : inP b = true) (hs : inP s = true) : inP (nxS p b s) = true := by unfold nxS; split <;> assumption
/-- best in its box -/
structure BstB (w : World) (g : Nat) (q : Int × Int) (wr : World) : Prop where
 c0 : wr.cell? ⟨g, 0, none⟩ = some (.int .i64 q.1)
 c1 : wr.cell? ⟨g, 1, none⟩ = some (.int .i64 q.2)
 z : Zn wr g
 b : Below w.heap.size w wr
 hg : w.heap.size ≤ g
theorem BstB.below {w wr w1 : World} {g : Nat} {q : Int × Int} (h : BstB w g q wr) (hb : Below wr.heap.size wr w1) : BstB w g q w1 := ⟨keep_cell hb h.c0, keep_cell hb h.c1, h.z.below hb, bel_step h.b hb, h.hg⟩
theorem BstB.set {w wr : World} {g : Nat} {q : Int × Int} (h : BstB w g q wr) (p : Int × Int) : BstB w g p ((wr.setCell ⟨g, 0, none⟩ (.int .i64 p.1)).setCell ⟨g, 1, none⟩ (.int .i64 p.2)) := by
 have h1 : (wr.setCell ⟨g, 0, none⟩ (.int .i64 p.1)).cell? ⟨g, 1, none⟩ = _ := (cell_set_ne (by omega)).trans h.c1
 exact ⟨(cell_set_ne (by omega)).trans (World.cell?_setCell_same _ _ _ h.c0), World.cell?_setCell_same _ _ _ h1, h.z.set_.set_, below_set (below_set h.b h.hg _ _) h.hg _ _, h.hg⟩
structure NxF (w : World) (gb : Nat) (p q : Int × Int) (wr : World) : Prop where
 s : BstB w gb q wr
 f0 : wr.cell? ⟨w.heap.size, 0, none⟩ = some (.int .i64 p.1)
 f1 : wr.cell? ⟨w.heap.size, 1, none⟩ = some (.int .i64 p.2)
 r0 : wr.cell? ⟨w.heap.size + 1, 0, none⟩ = some (.int .i64 0)
 r1 : wr.cell? ⟨w.heap.size + 1, 1, none⟩ = some (.int .i64 0)
 zk : Zn wr (w.heap.size + 1)
 n1 : gb ≠ w.heap.size
 n2 : gb ≠ w.heap.size + 1
theorem NxF.below {w wr w1 : World} {gb : Nat} {p q : Int × Int} (h : NxF w gb p q wr) (hb : Below wr.heap.size wr w1) : NxF w gb p q w1 :=
 ⟨h.s.below hb, keep_cell hb h.f0, keep_cell hb h.f1, keep_cell hb h.r0, keep_cell hb h.r1, h.zk.below hb, h.n1, h.n2⟩
theorem NxF.set {w wr : World} {gb : Nat} {p q : Int × Int} (h : NxF w gb p q wr) (s : Int × Int) : NxF w gb p s ((wr.setCell ⟨gb, 0, none⟩ (.int .i64 s.1)).setCell ⟨gb, 1, none⟩ (.int .i64 s.2)) :=
 ⟨h.s.set s, keep_set h.n1 (keep_set h.n1 h.f0), keep_set h.n1 (keep_set h.n1 h.f1), keep_set h.n2 (keep_set h.n2 h.r0), keep_set h.n2 (keep_set h.n2 h.r1), h.zk.set_.set_, h.n1, h.n2⟩
theorem nxS_yes {p b s : Int × Int} (h : b = p ∨ crsZ p b s < 0 ∨ (crsZ p b s = 0 ∧ sqZ p b < sqZ p s)) : nxS p b s = s := by unfold nxS; rw [if_pos h]
theorem nxS_no {p b s : Int × Int} (h : ¬(b = p ∨ crsZ p b s < 0 ∨ (crsZ p b s = 0 ∧ sqZ p b < sqZ p s))) : nxS p b s = b := by unfold nxS; rw [if_neg h]
set_option maxRecDepth 100000 in
set_option maxHeartbeats 4000000 in
theorem Rnext_g (l : List (Int × Int)) (A : Option Addr) (c : Nat) (p : Int × Int) {w : World} (hl : Pb w A c l) (hln : l.length ≤ 4096) (hin : ∀ p ∈ l, inP p = true) (hp : inP p = true) :
  Calls Tryz.prog 41 #[.slice A l.length c, .agg #[.int .i64 p.1, .int .i64 p.2]] w (RetPt w (nxtP l p)) := by
 obtain ⟨n, hn⟩ : ∃ n, l.length = n := ⟨_, rfl⟩
 have hM := hid fun (j : Nat) (hj : j < n) (W : World) (hb : Below w.heap.size w W) => (hl.below hb).at_ (k := j) (by omega)
 have hI := hid fun (j : Nat) (hj : j < l.length) => hin _ (List.getElem_mem hj)
 have hC := hid fun (o a b : Int × Int) (ho : inP o = true) (ha : inP a = true) (hb : inP b = true) (W : World) => Rcross_g ho ha hb W
 have hD := hid fun (a b : Int × Int) (ha : inP a = true) (hb : inP b = true) (W : World) => Rfar_g ha hb W
 have hE := hid (bst_all l p)
 have hT := hid fun (j : Nat) (h : j < l.length) => bst_succ (p := p) h
 have hn4 : n ≤ 4096 := by omega
 rw [hn] at hE ⊢
 replace hn := hid hn
 have hb0 : bstP l p 0 = p := rfl
 generalize nxtP l p = R at *
 generalize bstP l p = st at *
 replace hp := hid hp
 clear hl hln hin
 obtain ⟨p0, p1⟩ := p
 dsimp only
 go_enter Tryz.func41, Tryz.ntmps41
 go_upto_region 1 with fail
 refine enterR2 (P := fun u => Code.wp _ _ _ _ u) (c0 := [.int .i64 p0, .int .i64 p1]) (c1 := [.int .i64 0, .int .i64 0]) ?_
 intro u HB r0 r1 zn0 zn1 hsz
 have f0 : u.cell? ⟨w.heap.size, 0, none⟩ = some (.int .i64 p0) := r0 0 _ rfl
 have f1 : u.cell? ⟨w.heap.size, 1, none⟩ = some (.int .i64 p1) := r0 1 _ rfl
 clear hsz r0
 go_upto_region 2 with fail
 refine enterR (P := fun u => Code.wp _ _ _ _ u) (c := [.int .i64 p0, .int .i64 p1]) ?_
 intro v hv r4 zn4 hsz
 have hS : BstB w u.heap.size (st 0) v := ⟨by rw [hb0]; exact r4 0 _ rfl, by rw [hb0]; exact r4 1 _ rfl, zn4, bel_step HB hv, HB.size⟩
 have hF : NxF w u.heap.size (p0, p1) (st 0) v := ⟨hS, keep_cell hv f0, keep_cell hv f1, rng_below r1 hv 0 _ rfl, rng_below r1 hv 1 _ rfl, zn1.below hv, fun e => by have := zn1.lt; omega, fun e => by have := zn1.lt; omega⟩
 have hS0 : Hid (inP (st 0) = true) := by unfold Hid; rw [hb0]; exact hp.out
 clear HB hv r4 zn4 hsz r1 zn1 hS f0 f1 zn0
 generalize u.heap.size = gb at *
 go_wp2
 go_loopw [6, 7] (fun s6 s7 wr => ∃ (i : Nat) (q : Int × Int), s6 = .int .i64 i ∧ i ≤ n ∧ Hid (st i = q ∧ inP q = true) ∧ NxF w gb (p0, p1) q wr) (fun s6 _ _ => n - (intOf s6).toNat)
 case atStart => exact ⟨0, st 0, rfl, by omega, ⟨rfl, hS0.out⟩, hF⟩
 case round =>
  clear hF hS0 hb0
  obtain ⟨i, q, rfl, hi, hq, hF⟩ := hrel
  by_cases hin : i < n
  ·have hii : (i : Int) < (n : Int) := by omega
   have hil : i < l.length := by have := hn.out; omega
   obtain ⟨b, o, hA, e0, e1⟩ := hM.out i hin wr hF.s.b
   have hsi := hI.out i hil
   have hTi := hT.out i hil
   rw [hq.out.1] at hTi
   generalize l[i] = s at *
   subst hA
   obtain ⟨z, hz⟩ : ∃ z, crsZ (p0, p1) q s = z := ⟨_, rfl⟩
   have HCr := hid fun (W : World) => (show Calls Tryz.prog 26 #[.agg #[.int .i64 (p0, p1).1, .int .i64 (p0, p1).2], .agg #[.int .i64 q.1, .int .i64 q.2], .agg #[.int .i64 s.1, .int .i64 s.2]] W (RetI W z) from by
    rw [← hz]; exact hC.out _ _ _ hp.out hq.out.2 hsi W)
   have hN := hid fun (h : q = (p0, p1) ∨ z < 0 ∨ (z = 0 ∧ sqZ (p0, p1) q < sqZ (p0, p1) s)) => (show st (i + 1) = s ∧ inP s = true from ⟨by rw [hTi]; exact nxS_yes (by rw [hz]; exact h), hsi⟩)
   have hNe := hid fun (hqp : ¬ q = (p0, p1)) (h1 : 0 ≤ z) (h2 : ¬ z = 0) => (show st (i + 1) = q ∧ inP q = true from ⟨by rw [hTi]; exact nxS_no (by rw [hz]; rintro (h | h | h); exact hqp h; omega; exact h2 h.1), hq.out.2⟩)
   have hZe := hid fun (hqp : ¬ q = (p0, p1)) (h0 : z = 0) => (show ∃ d2 d3 : Int, Hid (∀ W : World, Calls Tryz.prog 53 #[.agg #[.int .i64 (p0, p1).1, .int .i64 (p0, p1).2], .agg #[.int .i64 s.1, .int .i64 s.2]] W (RetI W d2)) ∧ Hid (∀ W : World, Calls Tryz.prog 53 #[.agg #[.int .i64 (p0, p1).1, .int .i64 (p0, p1).2], .agg #[.int .i64 q.1, .int .i64 q.2]] W (RetI W d3)) ∧ (d3 < d2 → st (i + 1) = s ∧ inP s = true) ∧ (d2 ≤ d3 → st (i + 1) = q ∧ inP q = true) from
    ⟨sqZ (p0, p1) s, sqZ (p0, p1) q, fun W => hD.out _ _ hp.out hsi W, fun W => hD.out _ _ hp.out hq.out.2 W, fun h => hN.out (Or.inr (Or.inr ⟨h0, h⟩)), fun h => ⟨by rw [hTi]; exact nxS_no (by rw [hz]; rintro (h1 | h1 | h1); exact hqp h1; omega; exact absurd h1.2 (by omega)), hq.out.2⟩⟩)
   obtain ⟨x, y⟩ := s
   obtain ⟨q0, q1⟩ := q
   dsimp only at e0 e1
   clear hM hI hT hE hD hC hz hTi hsi hq
   have f0 := hF.f0
   have f1 := hF.f1
   have d0 := hF.s.c0
   have d1 := hF.s.c1
   dsimp only at f0 f1 d0 d1
   go_wp2_with fail
   go_region_held3 (fun w' => (w'.cell? ⟨w.heap.size, 0, none⟩ = some (.int .i64 p0) ∧ w'.cell? ⟨w.heap.size, 1, none⟩ = some (.int .i64 p1)) ∧ (w'.cell? ⟨gb, 0, none⟩ = some (.int .i64 q0) ∧ w'.cell? ⟨gb, 1, none⟩ = some (.int .i64 q1)) ∧ (w'.cell? ⟨b, o + i * 2, none⟩ = some (.int .i64 x) ∧ w'.cell? ⟨b, o + i * 2 + 1, none⟩ = some (.int .i64 y))) (first | ((try dsimp only); repeat' (first | with_reducible assumption | apply And.intro | (with_reducible refine keep_alloc ?_) | (with_reducible refine keep_drew ?_) | (with_reducible refine keep_set (by omega) ?_) | (with_reducible refine keep_sets (by omega) ?_) | (with_reducible refine keep_cell (W := wr) ?_ ?_) | fail))) ((go_at_call 26; (with_reducible refine (HCr.out _).mono ?_); rintro e v2 ⟨rfl, hq_⟩; have qy5 : Below wr.heap.size wr v2 := bel_step BG hq_))
   all_goals
    replace hF := hF.below qy5
    have e0 := keep_cell qy5 e0
    have e1 := keep_cell qy5 e1
    clear qy5 HCr d0 d1 f0 f1
    have f0 := hF.f0
    have f1 := hF.f1
    have d0 := hF.s.c0
    have d1 := hF.s.c1
    dsimp only at f0 f1 d0 d1
    by_cases g0 : p0 = q0
    ·subst g0
     by_cases g1 : p1 = q1
     ·subst g1
      have hN2 := hid (hN.out (Or.inl rfl))
      clear hN hNe hZe
      go_wp2_with fail
      go_quiet (fail)
      have hv : Below v2.heap.size v2 (v2.drewN nq) := below_drewN (Below.refl _ _) _
      generalize hvq : v2.drewN nq = v3 at hv ⊢
      clear hvq
      replace hF := hF.below hv
      have e0 := keep_cell hv e0
      have e1 := keep_cell hv e1
      clear hv d0 d1 f0 f1
      have fz := hF.s.z.fr
      have ltg := hF.s.z.lt
      have f0 := hF.f0
      have f1 := hF.f1
      have d0 := hF.s.c0
      have d1 := hF.s.c1
      dsimp only at f0 f1 d0 d1
      have hSF := hid (hF.set (x, y))
      clear hF f0 f1
      go_wp2
      go_roundw
      case rel => exact ⟨i + 1, (x, y), by go_num, by omega, hN2, hSF.out⟩
      case measure => simp [intOf]; omega
     ·have hNo := hid (hNe.out (fun h => g1 (by injection h with _ h; exact h.symm)))
      have hZ0 := hid (hZe.out (fun h => g1 (by injection h with _ h; exact h.symm)))
      clear hNe hZe
      have g3 : ¬ q1 = p1 := fun h => g1 h.symm
      by_cases hz1 : z < 0
      ·have hN2 := hid (hN.out (Or.inr (Or.inl hz1)))
       have hzd : decide (z < 0) = true := decide_eq_true hz1
       clear hN hNo hZ0
       go_wp2_with fail
       go_quiet (fail)
       have hv : Below v2.heap.size v2 (v2.drewN nq) := below_drewN (Below.refl _ _) _
       generalize hvq : v2.drewN nq = v3 at hv ⊢
       clear hvq
       replace hF := hF.below hv
       have e0 := keep_cell hv e0
       have e1 := keep_cell hv e1
       clear hv d0 d1 f0 f1
       have fz := hF.s.z.fr
       have ltg := hF.s.z.lt
       have f0 := hF.f0
       have f1 := hF.f1
       have d0 := hF.s.c0
       have d1 := hF.s.c1
       dsimp only at f0 f1 d0 d1
       have hSF := hid (hF.set (x, y))
       clear hF f0 f1
       go_wp2
       go_roundw
       case rel => exact ⟨i + 1, (x, y), by go_num, by omega, hN2, hSF.out⟩
       case measure => simp [intOf]; omega
      ·by_cases hz2 : z = 0
       ·subst hz2
        obtain ⟨d2, d3, HD1, HD2, hy, hno⟩ := hZ0.out rfl
        have HDh := hid (And.intro hy hno)
        clear hN hNo hZ0 hy hno
        by_cases hd : d3 < d2
        ·have hN2 := hid (HDh.out.1 hd)
         clear HDh
         go_wp2_with fail
         go_region_held3 (fun w' => (w'.cell? ⟨w.heap.size, 0, none⟩ = some (.int .i64 p0) ∧ w'.cell? ⟨w.heap.size, 1, none⟩ = some (.int .i64 p1)) ∧ (w'.cell? ⟨gb, 0, none⟩ = some (.int .i64 p0) ∧ w'.cell? ⟨gb, 1, none⟩ = some (.int .i64 q1)) ∧ (w'.cell? ⟨b, o + i * 2, none⟩ = some (.int .i64 x) ∧ w'.cell? ⟨b, o + i * 2 + 1, none⟩ = some (.int .i64 y))) (first | ((try dsimp only); repeat' (first | with_reducible assumption | apply And.intro | (with_reducible refine keep_alloc ?_) | (with_reducible refine keep_drew ?_) | (with_reducible refine keep_set (by omega) ?_) | (with_reducible refine keep_sets (by omega) ?_) | (with_reducible refine keep_cell (W := v2) ?_ ?_) | fail))) (first | (go_at_call 53; (with_reducible refine (HD1.out _).mono ?_); rintro e v6 ⟨rfl, hq_⟩; have qy6 : Below v2.heap.size v2 v6 := bel_step BG hq_) | (go_at_call 53; (with_reducible refine (HD2.out _).mono ?_); rintro e v7 ⟨rfl, hq_⟩; have qy7 : Below v2.heap.size v2 v7 := bel_step BG hq_))
         all_goals
          replace hF := hF.below qy7
          have e0 := keep_cell qy7 e0
          have e1 := keep_cell qy7 e1
          clear qy6 qy7 HD1 HD2 d0 d1 f0 f1
          have fz := hF.s.z.fr
          have ltg := hF.s.z.lt
          have f0 := hF.f0
          have f1 := hF.f1
          have d0 := hF.s.c0
          have d1 := hF.s.c1
          dsimp only at f0 f1 d0 d1
          have hSF := hid (hF.set (x, y))
          clear hF f0 f1
          go_wp2
          go_roundw
          case rel => exact ⟨i + 1, (x, y), by go_num, by omega, hN2, hSF.out⟩
          case measure => simp [intOf]; omega
        ·have hN2 := hid (HDh.out.2 (by omega))
         clear HDh
         go_wp2_with fail
         go_region_held3 (fun w' => (w'.cell? ⟨w.heap.size, 0, none⟩ = some (.int .i64 p0) ∧ w'.cell? ⟨w.heap.size, 1, none⟩ = some (.int .i64 p1)) ∧ (w'.cell? ⟨gb, 0, none⟩ = some (.int .i64 p0) ∧ w'.cell? ⟨gb, 1, none⟩ = some (.int .i64 q1)) ∧ (w'.cell? ⟨b, o + i * 2, none⟩ = some (.int .i64 x) ∧ w'.cell? ⟨b, o + i * 2 + 1, none⟩ = some (.int .i64 y))) (first | ((try dsimp only); repeat' (first | with_reducible assumption | apply And.intro | (with_reducible refine keep_alloc ?_) | (with_reducible refine keep_drew ?_) | (with_reducible refine keep_set (by omega) ?_) | (with_reducible refine keep_sets (by omega) ?_) | (with_reducible refine keep_cell (W := v2) ?_ ?_) | fail))) (first | (go_at_call 53; (with_reducible refine (HD1.out _).mono ?_); rintro e v6 ⟨rfl, hq_⟩; have qy6 : Below v2.heap.size v2 v6 := bel_step BG hq_) | (go_at_call 53; (with_reducible refine (HD2.out _).mono ?_); rintro e v7 ⟨rfl, hq_⟩; have qy7 : Below v2.heap.size v2 v7 := bel_step BG hq_))
         all_goals
          replace hF := hF.below qy7
          clear qy6 qy7 HD1 HD2 d0 d1 f0 f1
          have hSF := hid hF
          clear hF
          go_wp2
          go_roundw
          case rel => exact ⟨i + 1, (p0, q1), by go_num, by omega, hN2, hSF.out⟩
          case measure => simp [intOf]; omega
       ·have hN2 := hid (hNo.out (by omega) hz2)
        have hzd : decide (z < 0) = false := decide_eq_false hz1
        have hze : (z == 0) = false := beq_eq_false_iff_ne.2 hz2
        clear hN hNo hZ0
        go_wp2_with fail
        go_quiet (fail)
        have hv : Below v2.heap.size v2 (v2.drewN nq) := below_drewN (Below.refl _ _) _
        generalize hvq : v2.drewN nq = v3 at hv ⊢
        clear hvq
        replace hF := hF.below hv
        have e0 := keep_cell hv e0
        have e1 := keep_cell hv e1
        clear hv d0 d1 f0 f1
        have hSF := hid hF
        clear hF
        go_wp2
        go_roundw
        case rel => exact ⟨i + 1, (p0, q1), by go_num, by omega, hN2, hSF.out⟩
        case measure => simp [intOf]; omega
    ·have hNo := hid (hNe.out (fun h => g0 (by injection h with h _; exact h.symm)))
     have hZ0 := hid (hZe.out (fun h => g0 (by injection h with h _; exact h.symm)))
     clear hNe hZe
     have g3 : ¬ q0 = p0 := fun h => g0 h.symm
     by_cases hz1 : z < 0
     ·have hN2 := hid (hN.out (Or.inr (Or.inl hz1)))
      have hzd : decide (z < 0) = true := decide_eq_true hz1
      clear hN hNo hZ0
      go_wp2_with fail
      go_quiet (fail)
      have hv : Below v2.heap.size v2 (v2.drewN nq) := below_drewN (Below.refl _ _) _
      generalize hvq : v2.drewN nq = v3 at hv ⊢
      clear hvq
      replace hF := hF.below hv
      have e0 := keep_cell hv e0
      have e1 := keep_cell hv e1
      clear hv d0 d1 f0 f1
      have fz := hF.s.z.fr
      have ltg := hF.s.z.lt
      have f0 := hF.f0
      have f1 := hF.f1
      have d0 := hF.s.c0
      have d1 := hF.s.c1
      dsimp only at f0 f1 d0 d1
      have hSF := hid (hF.set (x, y))
      clear hF f0 f1
      go_wp2
      go_roundw
      case rel => exact ⟨i + 1, (x, y), by go_num, by omega, hN2, hSF.out⟩
      case measure => simp [intOf]; omega
     ·by_cases hz2 : z = 0
      ·subst hz2
       obtain ⟨d2, d3, HD1, HD2, hy, hno⟩ := hZ0.out rfl
       have HDh := hid (And.intro hy hno)
       clear hN hNo hZ0 hy hno
       by_cases hd : d3 < d2
       ·have hN2 := hid (HDh.out.1 hd)
        clear HDh
        go_wp2_with fail
        go_region_held3 (fun w' => (w'.cell? ⟨w.heap.size, 0, none⟩ = some (.int .i64 p0) ∧ w'.cell? ⟨w.heap.size, 1, none⟩ = some (.int .i64 p1)) ∧ (w'.cell? ⟨gb, 0, none⟩ = some (.int .i64 q0) ∧ w'.cell? ⟨gb, 1, none⟩ = some (.int .i64 q1)) ∧ (w'.cell? ⟨b, o + i * 2, none⟩ = some (.int .i64 x) ∧ w'.cell? ⟨b, o + i * 2 + 1, none⟩ = some (.int .i64 y))) (first | ((try dsimp only); repeat' (first | with_reducible assumption | apply And.intro | (with_reducible refine keep_alloc ?_) | (with_reducible refine keep_drew ?_) | (with_reducible refine keep_set (by omega) ?_) | (with_reducible refine keep_sets (by omega) ?_) | (with_reducible refine keep_cell (W := v2) ?_ ?_) | fail))) (first | (go_at_call 53; (with_reducible refine (HD1.out _).mono ?_); rintro e v6 ⟨rfl, hq_⟩; have qy6 : Below v2.heap.size v2 v6 := bel_step BG hq_) | (go_at_call 53; (with_reducible refine (HD2.out _).mono ?_); rintro e v7 ⟨rfl, hq_⟩; have qy7 : Below v2.heap.size v2 v7 := bel_step BG hq_))
        all_goals
         replace hF := hF.below qy7
         have e0 := keep_cell qy7 e0
         have e1 := keep_cell qy7 e1
         clear qy6 qy7 HD1 HD2 d0 d1 f0 f1
         have fz := hF.s.z.fr
         have ltg := hF.s.z.lt
         have f0 := hF.f0
         have f1 := hF.f1
         have d0 := hF.s.c0
         have d1 := hF.s.c1
         dsimp only at f0 f1 d0 d1
         have hSF := hid (hF.set (x, y))
         clear hF f0 f1
         go_wp2
         go_roundw
         case rel => exact ⟨i + 1, (x, y), by go_num, by omega, hN2, hSF.out⟩
         case measure => simp [intOf]; omega
       ·have hN2 := hid (HDh.out.2 (by omega))
        clear HDh
        go_wp2_with fail
        go_region_held3 (fun w' => (w'.cell? ⟨w.heap.size, 0, none⟩ = some (.int .i64 p0) ∧ w'.cell? ⟨w.heap.size, 1, none⟩ = some (.int .i64 p1)) ∧ (w'.cell? ⟨gb, 0, none⟩ = some (.int .i64 q0) ∧ w'.cell? ⟨gb, 1, none⟩ = some (.int .i64 q1)) ∧ (w'.cell? ⟨b, o + i * 2, none⟩ = some (.int .i64 x) ∧ w'.cell? ⟨b, o + i * 2 + 1, none⟩ = some (.int .i64 y))) (first | ((try dsimp only); repeat' (first | with_reducible assumption | apply And.intro | (with_reducible refine keep_alloc ?_) | (with_reducible refine keep_drew ?_) | (with_reducible refine keep_set (by omega) ?_) | (with_reducible refine keep_sets (by omega) ?_) | (with_reducible refine keep_cell (W := v2) ?_ ?_) | fail))) (first | (go_at_call 53; (with_reducible refine (HD1.out _).mono ?_); rintro e v6 ⟨rfl, hq_⟩; have qy6 : Below v2.heap.size v2 v6 := bel_step BG hq_) | (go_at_call 53; (with_reducible refine (HD2.out _).mono ?_); rintro e v7 ⟨rfl, hq_⟩; have qy7 : Below v2.heap.size v2 v7 := bel_step BG hq_))
        all_goals
         replace hF := hF.below qy7
         clear qy6 qy7 HD1 HD2 d0 d1 f0 f1
         have hSF := hid hF
         clear hF
         go_wp2
         go_roundw
         case rel => exact ⟨i + 1, (q0, q1), by go_num, by omega, hN2, hSF.out⟩
         case measure => simp [intOf]; omega
      ·have hN2 := hid (hNo.out (by omega) hz2)
       have hzd : decide (z < 0) = false := decide_eq_false hz1
       have hze : (z == 0) = false := beq_eq_false_iff_ne.2 hz2
       clear hN hNo hZ0
       go_wp2_with fail
       go_quiet (fail)
       have hv : Below v2.heap.size v2 (v2.drewN nq) := below_drewN (Below.refl _ _) _
       generalize hvq : v2.drewN nq = v3 at hv ⊢
       clear hvq
       replace hF := hF.below hv
       have e0 := keep_cell hv e0
       have e1 := keep_cell hv e1
       clear hv d0 d1 f0 f1
       have hSF := hid hF
       clear hF
       go_wp2
       go_roundw
       case rel => exact ⟨i + 1, (q0, q1), by go_num, by omega, hN2, hSF.out⟩
       case measure => simp [intOf]; omega
  ·obtain rfl : i = n := by omega
   have hii : ¬ (i : Int) < (i : Int) := by omega
   have hR := hid (hE.out.symm.trans hq.out.1)
   have k0 := hF.r0
   have k1 := hF.r1
   have fk := hF.zk.fr
   have ltk := hF.zk.lt
   have f0 := hF.f0
   have f1 := hF.f1
   have d0 := hF.s.c0
   have d1 := hF.s.c1
   dsimp only at f0 f1 d0 d1
   have HBf := hid (below_set (below_set hF.s.b (Nat.le_succ _) 0 (.int .i64 q.1)) (Nat.le_succ _) 1 (.int .i64 q.2))
   obtain ⟨q0, q1⟩ := q
   dsimp only at *
   clear hM hI hT hE hD hC hF hq
   go_wp2
   refine bodyPost_ret (v := .agg #[.int .i64 q0, .int .i64 q1]) ?_ rfl ?_
   ·simp [results, Tryz.results41, go_sem, k0, k1]
   ·exact ⟨by rw [hR.out], HBf.out⟩
end Go.Proofs.YtglailcfgcdagaaGreat
