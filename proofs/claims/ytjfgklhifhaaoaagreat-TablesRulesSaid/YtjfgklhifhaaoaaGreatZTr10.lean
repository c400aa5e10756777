/- Tables: Without of the reference. Conditions: none. -/
import Derived.Test.YtjfgklhifhaaoaaGreatZTr8
import Derived.Test.YtjfgklhifhaaoaaGreatZTr9
set_option linter.unusedVariables false
set_option linter.unusedSimpArgs false
namespace Go.Proofs.YtjfgklhifhaaoaaGreat
open Go.RowKit
/-- painting a box light, pixel by pixel -/
structure Pn (W H X Y U V : Nat) (bw bh : Int) (D E : List Bool) (Q : Nat → Nat → List Bool) : Prop where
 zero : Q Y 0 = D
 row : ∀ y x, U ≤ x → Q y x = Q (y + 1) 0
 st : ∀ y, Q y X = Q y 0
 fin : ∀ y, V ≤ y → Q y 0 = E
 set : ∀ y x, x < U → X ≤ x → Y ≤ y → y < V → (Q y x).set (y * W + x) false = Q y (x + 1)
 len : ∀ y x, (Q y x).length = W * H
 u : ∀ x : Nat, x < U ↔ (x : Int) < (X : Int) + bw ∧ x < W
 v : ∀ y : Nat, y < V ↔ (y : Int) < (Y : Int) + bh ∧ y < H
theorem pn_ok {W H X Y : Nat} {bw bh : Int} {D : List Bool} (hD : D.length = W * H) : ∃ U V Q, Pn W H X Y U V bw bh D (pntB W H D ⟨X, Y, bw, bh⟩ false) Q := by
 refine ⟨(min ((X : Int) + bw) W).toNat, (min ((Y : Int) + bh) H).toNat, pntP D W X Y (min ((X : Int) + bw) W).toNat (min ((Y : Int) + bh) H).toNat false, ?_⟩
 have e : pntB W H D ⟨X, Y, bw, bh⟩ false = pntL D W X Y (min ((X : Int) + bw) W).toNat (min ((Y : Int) + bh) H).toNat false := by unfold pntB; simp
 rw [e]
 exact ⟨pntP_zero .., fun y x h => pntP_row _ _ _ _ _ _ _ y x h, fun y => pntP_start .., fun y h => pntP_end _ _ _ _ _ _ _ y h, fun y x h1 h2 h3 h4 => pntP_set _ _ _ _ _ _ _ y x (by omega) h2 h1 h3 h4, fun y x => (pntP_len ..).trans hD, fun x => by omega, fun y => by omega⟩
theorem witE_3a {m : Bm} {l : List Ru} (h : bmB m = true) (h1 : ¬ 4096 < l.length) (h2 : l.all okR = false) : witE m l = (noB, 3) := by unfold witE; rw [h, if_pos rfl, if_neg h1, if_neg (by rw [h2]; simp)]
theorem witE_0a {m : Bm} {l : List Ru} (h : bmB m = true) (h1 : ¬ 4096 < l.length) (h2 : l.all okR = true) : witE m l = (⟨m.w, m.h, wipeL m.w m.h m.d l⟩, 0) := by unfold witE; rw [h, if_pos rfl, if_neg h1, if_pos h2]
theorem PxR.off {w w' : World} {g k i : Nat} {d : List Bool} {u : Value} (h : PxR w g d w') (hw : w.heap.size ≤ k) (hk : k ≠ g) : PxR w g d (w'.setCell ⟨k, i, none⟩ u) := by
 refine ⟨⟨h.gb.os, h.gb.tape, h.gb.output, Nat.le_trans h.gb.size (by simp), fun j hj hne => ?_⟩, ⟨fun j v hv => keep_set hk (h.a.r j v hv), h.a.z.set_⟩⟩
 exact (Below.heap_setCell w' ⟨k, i, none⟩ u j (by simp; omega)).trans (h.gb.block j hj hne)
set_option maxRecDepth 100000 in
set_option maxHeartbeats 16000000 in
theorem RWit_g (m : Bm) (A : Option Addr) (c : Nat) (l : List Ru) (B : Option Addr) (k : Nat) {w : World} (hm : BoK.Rd w A c m.d) (hl : RuK.Rd w B k l) :
  Calls Tryz.prog 11 #[.agg #[.int .i64 m.w, .int .i64 m.h, .slice A m.d.length c], .slice B l.length k] w (RetBE w (witE m l)) := by
 obtain ⟨nl, hn⟩ : ∃ n, l.length = n := ⟨_, rfl⟩
 obtain ⟨E, hE⟩ : ∃ q, witE m l = q := ⟨_, rfl⟩
 have e1 := hid fun (h : bmB m = false) => hE.symm.trans (witE_1 h)
 have e4 := hid fun (h : bmB m = true) (h1 : 4096 < nl) => hE.symm.trans (witE_4 h (by omega))
 have e3 := hid fun (h : bmB m = true) (h1 : ¬ 4096 < nl) (h2 : l.all okR = false) => hE.symm.trans (witE_3a h (by omega) h2)
 have e0 := hid fun (h : bmB m = true) (h1 : ¬ 4096 < nl) (h2 : l.all okR = true) => hE.symm.trans (witE_0a h (by omega) h2)
 have hM := hid fun (j : Nat) (hj : j < nl) (W : World) (hb : Below w.heap.size w W) => (hl.below hb).at_ (j := j) (by omega)
 have cc := Nat.le_trans hl.cap hl.max
 have cd := Nat.le_trans hm.cap hm.max
 have HC := hid fun (W : World) => RSnd_g m A c W
 have HV := hid fun (W : World) (hb : Below w.heap.size w W) => RVal_g l B k (hl.below hb)
 have hpos := hid fun (h : bmB m = true) => (show 0 < m.d.length ∧ m.d.length ≤ 4194304 from by
  obtain ⟨⟨a1, a2, a3, a4, a5⟩, a6⟩ := bmB_iff.1 h
  have : 1 * 1 ≤ m.w * m.h := Int.mul_le_mul a1 a3 (by omega) (by omega)
  omega)
 have HP := hid fun (h : bmB m = true) (W : World) (hb : Below w.heap.size w W) => RCpy_g m A c (hm.below hb) (hpos.out h).1 (hpos.out h).2
 have hAll := hid fun (h : l.all okR = true) (i : Nat) (hi : i < l.length) => (show okR l[i] = true from List.all_eq_true.1 h _ (List.getElem_mem hi))
 have hbm := hid (bmB_iff (m := m))
 rw [hE]
 rw [hn] at cc HV ⊢
 replace hn := hid hn
 clear hl hE hm
 generalize bmB m = tb at *
 generalize l.all okR = ta at *
 obtain ⟨W, H, d⟩ := m
 dsimp only at *
 obtain ⟨n, hnn⟩ : ∃ n, d.length = n := ⟨_, rfl⟩
 rw [hnn] at cd HC hpos hbm ⊢
 have HP2 := hid fun (h : tb = true) (V : World) (hb : Below w.heap.size w V) => (show Calls Tryz.prog 34 #[.agg #[.int .i64 W, .int .i64 H, .slice A n c]] V (RetCy V ⟨W, H, d⟩) from by rw [← hnn]; exact HP.out h V hb)
 replace HP := HP2
 clear HP2
 replace hnn := hid hnn
 go_enter Tryz.func11, Tryz.ntmps11
 go_upto_region 1 with fail
 refine enterR2 (P := fun u => Code.wp _ _ _ _ u) (c0 := [.int .i64 W, .int .i64 H, .slice A n c]) (c1 := [.int .i64 0, .int .i64 0, .slice none 0 0]) ?_
 intro u HB r0 r1 zn0 zn1 hsz
 have c0 : u.cell? ⟨w.heap.size, 0, none⟩ = some (.int .i64 W) := r0 0 _ rfl
 have c1 : u.cell? ⟨w.heap.size, 1, none⟩ = some (.int .i64 H) := r0 1 _ rfl
 have c2 : u.cell? ⟨w.heap.size, 2, none⟩ = some (.slice A n c) := r0 2 _ rfl
 clear r0 zn0 hsz
 go_wp2_with fail
 refine (HC.out u).mono ?_
 rintro e v ⟨rfl, hv⟩
 replace HB := bel_step HB hv
 replace c0 := keep_cell hv c0
 replace c1 := keep_cell hv c1
 replace c2 := keep_cell hv c2
 replace r1 := rng_below r1 hv
 replace zn1 := zn1.below hv
 clear HC hv
 cases tb
 ·obtain rfl := e1.out (by first | rfl | trivial)
  clear e0 e3 e4 hM hpos hAll hbm c0 c1 c2
  clear HV HP
  have k0 : (v).cell? ⟨w.heap.size + 1, 0, none⟩ = some (.int .i64 0) := r1 0 _ rfl
  have k1 : (v).cell? ⟨w.heap.size + 1, 1, none⟩ = some (.int .i64 0) := r1 1 _ rfl
  have k2 : (v).cell? ⟨w.heap.size + 1, 2, none⟩ = some (.slice none 0 0) := r1 2 _ rfl
  have ltk := cell_lt k0
  have fk := zn1.fr
  have HBf := hid (below_set (below_set (below_set HB (show w.heap.size ≤ w.heap.size + 1 by omega) 0 (.int .i64 0)) (show w.heap.size ≤ w.heap.size + 1 by omega) 1 (.int .i64 0)) (show w.heap.size ≤ w.heap.size + 1 by omega) 2 (.slice none 0 0))
  clear r1 zn1 HB
  go_wp2
  refine bodyPost_ret (v := .tuple #[.agg #[.int .i64 0, .int .i64 0, .slice none 0 0], .int .i64 (1)]) ?_ rfl ?_
  ·simp [results, Tryz.results11, go_sem, k0, k1, k2]
  ·exact ⟨none, 0, rfl, Knd.Rd.nil _, HBf.out⟩
 ·replace e3 := hid (e3.out (by first | rfl | trivial))
  replace e4 := hid (e4.out (by first | rfl | trivial))
  replace e0 := hid (e0.out (by first | rfl | trivial))
  replace HP := hid (HP.out (by first | rfl | trivial))
  obtain ⟨p0, p1⟩ := hpos.out (by first | rfl | trivial)
  obtain ⟨hsz0, hsd0⟩ := hbm.out.1 (by first | rfl | trivial)
  clear e1 hpos hbm
  by_cases g1 : 4096 < nl
  ·have gi : (4096 : Int) < (nl : Int) := by omega
   obtain rfl := e4.out g1
   clear e0 e3 hM hAll c0 c1 c2 p0 p1 hsz0 hsd0
   clear HV HP
   have k0 : (v).cell? ⟨w.heap.size + 1, 0, none⟩ = some (.int .i64 0) := r1 0 _ rfl
   have k1 : (v).cell? ⟨w.heap.size + 1, 1, none⟩ = some (.int .i64 0) := r1 1 _ rfl
   have k2 : (v).cell? ⟨w.heap.size + 1, 2, none⟩ = some (.slice none 0 0) := r1 2 _ rfl
   have ltk := cell_lt k0
   have fk := zn1.fr
   have HBf := hid (below_set (below_set (below_set HB (show w.heap.size ≤ w.heap.size + 1 by omega) 0 (.int .i64 0)) (show w.heap.size ≤ w.heap.size + 1 by omega) 1 (.int .i64 0)) (show w.heap.size ≤ w.heap.size + 1 by omega) 2 (.slice none 0 0))
   clear r1 zn1 HB
   go_wp2
   refine bodyPost_ret (v := .tuple #[.agg #[.int .i64 0, .int .i64 0, .slice none 0 0], .int .i64 (4)]) ?_ rfl ?_
   ·simp [results, Tryz.results11, go_sem, k0, k1, k2]
   ·exact ⟨none, 0, rfl, Knd.Rd.nil _, HBf.out⟩
  ·have gi : ¬ (4096 : Int) < (nl : Int) := by omega
   replace e3 := hid (e3.out g1)
   replace e0 := hid (e0.out g1)
   clear e4
   replace hsz0 := hid hsz0
   replace hsd0 := hid hsd0
   go_wp2_with fail
   refine (HV.out v HB).mono ?_
   rintro e v1 ⟨rfl, hv⟩
   replace HB := bel_step HB hv
   replace c0 := keep_cell hv c0
   replace c1 := keep_cell hv c1
   replace c2 := keep_cell hv c2
   replace r1 := rng_below r1 hv
   replace zn1 := zn1.below hv
   clear hv
   cases ta
   ·obtain rfl := e3.out (by first | rfl | trivial)
    clear e0 hM hAll c0 c1 c2 p0 p1 hsz0 hsd0
    clear HV HP
    have k0 : (v1).cell? ⟨w.heap.size + 1, 0, none⟩ = some (.int .i64 0) := r1 0 _ rfl
    have k1 : (v1).cell? ⟨w.heap.size + 1, 1, none⟩ = some (.int .i64 0) := r1 1 _ rfl
    have k2 : (v1).cell? ⟨w.heap.size + 1, 2, none⟩ = some (.slice none 0 0) := r1 2 _ rfl
    have ltk := cell_lt k0
    have fk := zn1.fr
    have HBf := hid (below_set (below_set (below_set HB (show w.heap.size ≤ w.heap.size + 1 by omega) 0 (.int .i64 0)) (show w.heap.size ≤ w.heap.size + 1 by omega) 1 (.int .i64 0)) (show w.heap.size ≤ w.heap.size + 1 by omega) 2 (.slice none 0 0))
    clear r1 zn1 HB
    go_wp2
    refine bodyPost_ret (v := .tuple #[.agg #[.int .i64 0, .int .i64 0, .slice none 0 0], .int .i64 (3)]) ?_ rfl ?_
    ·simp [results, Tryz.results11, go_sem, k0, k1, k2]
    ·exact ⟨none, 0, rfl, Knd.Rd.nil _, HBf.out⟩
   ·obtain rfl := e0.out (by first | rfl | trivial)
    replace hAll := hid (hAll.out (by first | rfl | trivial))
    clear e3 e0 HV
    go_wp2_with fail
    refine (HP.out v1 HB).mono ?_
    rintro e v2 ⟨g, q, rfl, hpx, hg2, ⟨hq1, hq2⟩, hv⟩
    have hvs := HB.size
    replace HB := bel_step HB hv
    replace c0 := keep_cell hv c0
    replace c1 := keep_cell hv c1
    replace c2 := keep_cell hv c2
    replace r1 := rng_below r1 hv
    have hl1 := zn1.lt
    replace zn1 := zn1.below hv
    clear hv HP
    dsimp only at hpx hq1 hq2 ⊢
    rw [hnn.out] at hq1 ⊢
    go_upto_region 8 with fail
    refine enterR (P := fun u => Code.wp _ _ _ _ u) (c := [.int .i64 W, .int .i64 H, .slice (some ⟨g, 0, none⟩) n q]) ?_
    intro wc hv r5 z5 hs5
    replace HB := bel_step HB hv
    have hgl := hpx.z.lt
    have hpx := hpx.below hv
    replace c0 := keep_cell hv c0
    replace c1 := keep_cell hv c1
    replace c2 := keep_cell hv c2
    replace r1 := rng_below r1 hv
    replace zn1 := zn1.below hv
    obtain ⟨gb, hgb0⟩ : ∃ x, v2.heap.size = x := ⟨_, rfl⟩
    rw [hgb0] at r5 z5 hgl ⊢
    have hgb : gb ≠ g := by omega
    have hr1 : w.heap.size + 1 < g := by omega
    have hP0 : PxR wc g (wipK (W : Int) (H : Int) d l 0) wc := PxR.refl hpx
    have HBw := HB.size
    have hKp := hid fun (W' : World) (D' : List Bool) (h : PxR wc g D' W') => (show ((W'.cell? ⟨w.heap.size, 0, none⟩ = some (.int .i64 W) ∧ W'.cell? ⟨w.heap.size, 1, none⟩ = some (.int .i64 H)) ∧ W'.cell? ⟨w.heap.size, 2, none⟩ = some (.slice A n c)) ∧ ((W'.cell? ⟨gb, 0, none⟩ = some (.int .i64 W) ∧ W'.cell? ⟨gb, 1, none⟩ = some (.int .i64 H)) ∧ W'.cell? ⟨gb, 2, none⟩ = some (.slice (some ⟨g, 0, none⟩) n q)) ∧ Below w.heap.size w W' from
     ⟨⟨⟨h.keep (by omega) c0, h.keep (by omega) c1⟩, h.keep (by omega) c2⟩, ⟨⟨h.keep hgb (r5 0 _ rfl), h.keep hgb (r5 1 _ rfl)⟩, h.keep hgb (r5 2 _ rfl)⟩, HB.trans (h.below (by omega) HB.size)⟩)
    have hRs := hid fun (W' : World) (D' : List Bool) (h : PxR wc g D' W') => (show ((W'.cell? ⟨w.heap.size + 1, 0, none⟩ = some (.int .i64 0) ∧ W'.cell? ⟨w.heap.size + 1, 1, none⟩ = some (.int .i64 0)) ∧ W'.cell? ⟨w.heap.size + 1, 2, none⟩ = some (.slice none 0 0)) ∧ Zn W' (w.heap.size + 1) from
     ⟨⟨⟨h.keep (by omega) (r1 0 _ rfl), h.keep (by omega) (r1 1 _ rfl)⟩, h.keep (by omega) (r1 2 _ rfl)⟩, h.zn (by omega) zn1⟩)
    have hlK := hid fun (j : Nat) => (show (wipK (W : Int) (H : Int) d l j).length = d.length from wipeL_len _ _ _ _)
    have hst := hid fun (j : Nat) (h : j < l.length) => wipK_succ (W := (W : Int)) (H := (H : Int)) (d := d) h
    have hall := hid (show wipeL (W : Int) (H : Int) d l = wipK (W : Int) (H : Int) d l l.length from by unfold wipK; rw [List.take_length])
    have hfl := hid fun (D' : List Bool) (W' : World) (h : PxR wc g D' W') (e : D' = wipK (W : Int) (H : Int) d l l.length) => (show BoK.Rd (((W'.setCell ⟨w.heap.size + 1, 0, none⟩ (.int .i64 W)).setCell ⟨w.heap.size + 1, 1, none⟩ (.int .i64 H)).setCell ⟨w.heap.size + 1, 2, none⟩ (.slice (some ⟨g, 0, none⟩) n q)) (some ⟨g, 0, none⟩) q (wipK (W : Int) (H : Int) d l l.length) from by
     have hne : w.heap.size + 1 ≠ g := by omega
     refine PxA.rd (d := wipK (W : Int) (H : Int) d l l.length) ⟨fun j v hv => keep_set hne (keep_set hne (keep_set hne (h.a.r j v (by rw [e]; exact hv)))), h.a.z.set_.set_.set_⟩ (by rw [hlK.out, hnn.out]; exact hq1) hq2)
    have hlf := hlK.out l.length
    generalize wipK (W : Int) (H : Int) d l = Kf at *
    replace hlf := hid hlf
    obtain ⟨W, rfl⟩ := Int.eq_ofNat_of_zero_le (show 0 ≤ W by have := hsz0.out; omega)
    obtain ⟨H, rfl⟩ := Int.eq_ofNat_of_zero_le (show 0 ≤ H by have := hsz0.out; omega)
    have hW4 : W ≤ 4096 := by have := hsz0.out; omega
    have hH4 : H ≤ 4096 := by have := hsz0.out; omega
    have hsd := hid (show d.length = W * H from by have h1 := hsd0.out; have h2 := hnn.out; rw [← Int.natCast_mul] at h1; omega)
    replace hnn := hid (show W * H = n from by have h1 := hsd.out; have h2 := hnn.out; omega)
    clear c0 c1 c2 r1 zn1 r5 z5 hs5 hpx hv HB hsz0 hsd0 hgb0
    go_wp2
    go_loopw [7] (fun s7 wr => ∃ i : Nat, s7 = .int .i64 i ∧ i ≤ nl ∧ PxR wc g (Kf i) wr) (fun s7 _ => nl - (intOf s7).toNat)
    case atStart => exact ⟨0, rfl, by omega, hP0⟩
    case round =>
     clear hP0
     obtain ⟨i, rfl, hi, hR⟩ := hrel
     obtain ⟨⟨⟨c0, c1⟩, c2⟩, ⟨⟨o0, o1⟩, o2⟩, HBr⟩ := hKp.out wr _ hR
     by_cases hin : i < nl
     ·have hii : (i : Int) < (nl : Int) := by omega
      have hil : i < l.length := by have := hn.out; omega
      obtain ⟨b, o, hA3, hc⟩ := hM.out i hin wr HBr
      have f0 : wr.cell? ⟨b, (o + i * 5), none⟩ = some (.bool l[i].v) := hc 0 _ rfl
      have f1 : wr.cell? ⟨b, (o + i * 5) + 1, none⟩ = some (.int .i64 l[i].a) := hc 1 _ rfl
      have f2 : wr.cell? ⟨b, (o + i * 5) + 2, none⟩ = some (.int .i64 l[i].t) := hc 2 _ rfl
      have f3 : wr.cell? ⟨b, (o + i * 5) + 3, none⟩ = some (.int .i64 l[i].f) := hc 3 _ rfl
      have f4 : wr.cell? ⟨b, (o + i * 5) + 4, none⟩ = some (.int .i64 l[i].o) := hc 4 _ rfl
      clear hc
      subst hA3
      have hok := okR_iff.1 (hAll.out i hil)
      have hst2 := hid (hst.out i hil)
      generalize l[i] = z at *
      obtain ⟨zv, za, zt, zf, zo⟩ := z
      dsimp only at f0 f1 f2 f3 f4 hok
      have hws : IntKind.i64.wrap (zo - zf) = zo - zf := by rw [IntKind.wrap_i64]; omega
      obtain ⟨F, rfl⟩ := Int.eq_ofNat_of_zero_le (show 0 ≤ zf by omega)
      obtain ⟨Aa, rfl⟩ := Int.eq_ofNat_of_zero_le (show 0 ≤ za by omega)
      obtain ⟨bw, hbw⟩ : ∃ x, zo - (F : Int) = x := ⟨_, rfl⟩
      have hws2 : IntKind.i64.wrap (zo - (F : Int)) = bw := hws.trans hbw
      have hbd : (F ≤ 4096 ∧ Aa ≤ 4096) ∧ (0 ≤ bw ∧ bw ≤ 4096) ∧ (0 ≤ zt ∧ zt ≤ 4096) := by omega
      have hst3 := hid (show Kf (i + 1) = pntB (W : Int) (H : Int) (Kf i) (if zv then ⟨(Aa : Int), (F : Int), zt, bw⟩ else ⟨(F : Int), (Aa : Int), bw, zt⟩) false from by
       have := hst2.out
       unfold boxR at this
       dsimp only at this
       rw [hbw] at this
       exact this)
      obtain ⟨⟨hb1, hb2⟩, ⟨hb3, hb4⟩, hb5, hb6⟩ := hbd
      clear hM hAll hst hall hfl hlf hRs hok hws hbw hst2
      go_upto_region 11 with fail
      obtain ⟨gx, hgx0⟩ : ∃ x, wr.heap.size = x := ⟨_, rfl⟩
      have hglt := hR.a.z.lt
      have hgx : gx ≠ g := by omega
      have hgn : wc.heap.size ≤ gx := by have := hR.gb.size; omega
      refine Ords.start (x := 28) (S := fun w' => w'.cell? ⟨b, o + i * 5 + 1, none⟩ = some (.int .i64 (Aa : Int)) ∧ w'.cell? ⟨b, o + i * 5 + 2, none⟩ = some (.int .i64 zt) ∧ w'.cell? ⟨b, o + i * 5 + 3, none⟩ = some (.int .i64 (F : Int)) ∧ w'.cell? ⟨b, o + i * 5 + 4, none⟩ = some (.int .i64 zo)) (by kernel_rfl) ⟨f1, f2, f3, f4⟩ (fun hHeld => ?_)
      have hdb : Below wr.heap.size wr wr.drew := (Below.refl _ _).drew
      have hds : wr.drew.heap.size = gx := hgx0
      generalize wr.drew = xd at hdb hds hHeld ⊢
      refine' Ords.take (i := 0) ?_ ?_ ?_ ?_ ?_ ?_ ?_ ?_ ?_
      rotate_left 2
      ·(simp only [List.getElem?_toArray, List.getElem?_cons_succ, List.getElem?_cons_zero]; rfl)
      ·kernel_rfl
      ·kernel_rfl
      ·kernel_rfl
      ·kernel_rfl
      ·exact fun _ _ _ h => h
      ·(refine Or.inl ⟨by rfl, ?_⟩; intro w_ hSw_; (try dsimp only at hSw_); go_simp; (try with_reducible rfl))
      ·assumption
      (try simp only [Act.put, Lp0, Lp1, Lp2])
      refine' Ords.take (i := 1) ?_ ?_ ?_ ?_ ?_ ?_ ?_ ?_ ?_
      rotate_left 2
      ·(simp only [List.getElem?_toArray, List.getElem?_cons_succ, List.getElem?_cons_zero]; rfl)
      ·kernel_rfl
      ·kernel_rfl
      ·kernel_rfl
      ·kernel_rfl
      ·exact fun _ _ _ h => h
      ·(refine Or.inl ⟨by rfl, ?_⟩; intro w_ hSw_; (try dsimp only at hSw_); go_simp; (try with_reducible rfl))
      ·assumption
      (try simp only [Act.put, Lp0, Lp1, Lp2])
      refine' Ords.take (i := 2) ?_ ?_ ?_ ?_ ?_ ?_ ?_ ?_ ?_
      rotate_left 2
      ·(simp only [List.getElem?_toArray, List.getElem?_cons_succ, List.getElem?_cons_zero]; rfl)
      ·kernel_rfl
      ·kernel_rfl
      ·kernel_rfl
      ·kernel_rfl
      ·exact fun _ _ _ h => h
      ·(refine Or.inl ⟨by rfl, ?_⟩; intro w_ hSw_; (try dsimp only at hSw_); go_simp; (try with_reducible rfl))
      ·assumption
      (try simp only [Act.put, Lp0, Lp1, Lp2])
      refine' Ords.take (i := 3) ?_ ?_ ?_ ?_ ?_ ?_ ?_ ?_ ?_
      rotate_left 2
      ·(simp only [List.getElem?_toArray, List.getElem?_cons_succ, List.getElem?_cons_zero]; rfl)
      ·kernel_rfl
      ·kernel_rfl
      ·kernel_rfl
      ·kernel_rfl
      ·exact fun _ _ _ h => h
      ·(refine Or.inl ⟨by rfl, ?_⟩; intro w_ hSw_; (try dsimp only at hSw_); go_simp; (try with_reducible rfl))
      ·assumption
      (try simp only [Act.put, Lp0, Lp1, Lp2])
      refine' Ords.take (i := 4) ?_ ?_ ?_ ?_ ?_ ?_ ?_ ?_ ?_
      rotate_left 2
      ·(simp only [List.getElem?_toArray, List.getElem?_cons_succ, List.getElem?_cons_zero]; rfl)
      ·kernel_rfl
      ·kernel_rfl
      ·kernel_rfl
      ·kernel_rfl
      ·exact fun _ _ _ h => h
      ·(refine Or.inl ⟨by rfl, ?_⟩; intro w_ hSw_; (try dsimp only at hSw_); go_simp; (try with_reducible rfl))
      ·assumption
      (try simp only [Act.put, Lp0, Lp1, Lp2])
      refine' Ords.take (i := 5) ?_ ?_ ?_ ?_ ?_ ?_ ?_ ?_ ?_
      rotate_left 2
      ·(simp only [List.getElem?_toArray, List.getElem?_cons_succ, List.getElem?_cons_zero]; rfl)
      ·kernel_rfl
      ·kernel_rfl
      ·kernel_rfl
      ·kernel_rfl
      ·exact fun _ _ _ h => h
      ·(refine Or.inl ⟨by rfl, ?_⟩; intro w_ hSw_; (try dsimp only at hSw_); go_simp; (try with_reducible rfl))
      ·assumption
      (try simp only [Act.put, Lp0, Lp1, Lp2])
      refine' Ords.take (i := 6) ?_ ?_ ?_ ?_ ?_ ?_ ?_ ?_ ?_
      rotate_left 2
      ·(simp only [List.getElem?_toArray, List.getElem?_cons_succ, List.getElem?_cons_zero]; rfl)
      ·kernel_rfl
      ·kernel_rfl
      ·kernel_rfl
      ·kernel_rfl
      ·exact fun _ _ _ h => h
      ·(refine Or.inl ⟨by rfl, ?_⟩; intro w_ hSw_; (try dsimp only at hSw_); go_simp; (try with_reducible rfl))
      ·assumption
      (try simp only [Act.put, Lp0, Lp1, Lp2])
      refine' Ords.take (i := 7) ?_ ?_ ?_ ?_ ?_ ?_ ?_ ?_ ?_
      rotate_left 2
      ·(simp only [List.getElem?_toArray, List.getElem?_cons_succ, List.getElem?_cons_zero]; rfl)
      ·kernel_rfl
      ·kernel_rfl
      ·kernel_rfl
      ·kernel_rfl
      ·exact fun _ _ _ h => h
      ·(refine Or.inl ⟨by rfl, ?_⟩; intro w_ hSw_; (try dsimp only at hSw_); go_simp; (try with_reducible rfl))
      ·assumption
      (try simp only [Act.put, Lp0, Lp1, Lp2])
      refine' Ords.take (i := 8) ?_ ?_ ?_ ?_ ?_ ?_ ?_ ?_ ?_
      rotate_left 2
      ·(simp only [List.getElem?_toArray, List.getElem?_cons_succ, List.getElem?_cons_zero]; rfl)
      ·kernel_rfl
      ·kernel_rfl
      ·kernel_rfl
      ·kernel_rfl
      ·exact fun _ _ _ h => h
      ·(refine Or.inl ⟨by rfl, ?_⟩; intro w_ hSw_; (try dsimp only at hSw_); go_simp; (try with_reducible rfl))
      ·assumption
      (try simp only [Act.put, Lp0, Lp1, Lp2])
      refine' Ords.take (i := 9) ?_ ?_ ?_ ?_ ?_ ?_ ?_ ?_ ?_
      rotate_left 2
      ·(simp only [List.getElem?_toArray, List.getElem?_cons_succ, List.getElem?_cons_zero]; rfl)
      ·kernel_rfl
      ·kernel_rfl
      ·kernel_rfl
      ·kernel_rfl
      ·exact fun _ _ _ h => h
      ·(refine Or.inl ⟨by rfl, ?_⟩; intro w_ hSw_; (try dsimp only at hSw_); go_simp; (try with_reducible rfl))
      ·assumption
      (try simp only [Act.put, Lp0, Lp1, Lp2])
      refine' Ords.take (i := 10) ?_ ?_ ?_ ?_ ?_ ?_ ?_ ?_ ?_
      rotate_left 2
      ·(simp only [List.getElem?_toArray, List.getElem?_cons_succ, List.getElem?_cons_zero]; rfl)
      ·kernel_rfl
      ·kernel_rfl
      ·kernel_rfl
      ·kernel_rfl
      ·exact fun _ _ _ h => h
      ·(refine Or.inl ⟨by rfl, ?_⟩; intro w_ hSw_; (try dsimp only at hSw_); go_simp; (try with_reducible rfl))
      ·assumption
      (try simp only [Act.put, Lp0, Lp1, Lp2])
      refine' Ords.take (i := 11) ?_ ?_ ?_ ?_ ?_ ?_ ?_ ?_ ?_
      rotate_left 2
      ·(simp only [List.getElem?_toArray, List.getElem?_cons_succ, List.getElem?_cons_zero]; rfl)
      ·kernel_rfl
      ·kernel_rfl
      ·kernel_rfl
      ·kernel_rfl
      ·exact fun _ _ _ h => h
      ·(refine Or.inl ⟨by rfl, ?_⟩; intro w_ hSw_; (try dsimp only at hSw_); go_simp; (try with_reducible rfl))
      ·assumption
      (try simp only [Act.put, Lp0, Lp1, Lp2])
      refine' Ords.take (i := 12) ?_ ?_ ?_ ?_ ?_ ?_ ?_ ?_ ?_
      rotate_left 2
      ·(simp only [List.getElem?_toArray, List.getElem?_cons_succ, List.getElem?_cons_zero]; rfl)
      ·kernel_rfl
      ·kernel_rfl
      ·kernel_rfl
      ·kernel_rfl
      ·exact fun _ _ _ h => h
      ·(refine Or.inl ⟨by rfl, ?_⟩; intro w_ hSw_; (try dsimp only at hSw_); go_simp; (try with_reducible rfl))
      ·assumption
      (try simp only [Act.put, Lp0, Lp1, Lp2])
      refine' Ords.take (i := 13) ?_ ?_ ?_ ?_ ?_ ?_ ?_ ?_ ?_
      rotate_left 2
      ·(simp only [List.getElem?_toArray, List.getElem?_cons_succ, List.getElem?_cons_zero]; rfl)
      ·kernel_rfl
      ·kernel_rfl
      ·kernel_rfl
      ·kernel_rfl
      ·exact fun _ _ _ h => h
      ·(refine Or.inl ⟨by rfl, ?_⟩; intro w_ hSw_; (try dsimp only at hSw_); go_simp; (try with_reducible rfl))
      ·assumption
      (try simp only [Act.put, Lp0, Lp1, Lp2])
      refine' Ords.take (i := 14) ?_ ?_ ?_ ?_ ?_ ?_ ?_ ?_ ?_
      rotate_left 2
      ·(simp only [List.getElem?_toArray, List.getElem?_cons_succ, List.getElem?_cons_zero]; rfl)
      ·kernel_rfl
      ·kernel_rfl
      ·kernel_rfl
      ·kernel_rfl
      ·exact fun _ _ _ h => h
      ·(refine Or.inl ⟨by rfl, ?_⟩; intro w_ hSw_; (try dsimp only at hSw_); go_simp; (try with_reducible rfl))
      ·assumption
      (try simp only [Act.put, Lp0, Lp1, Lp2])
      refine' Ords.take (i := 15) ?_ ?_ ?_ ?_ ?_ ?_ ?_ ?_ ?_
      rotate_left 2
      ·(simp only [List.getElem?_toArray, List.getElem?_cons_succ, List.getElem?_cons_zero]; rfl)
      ·kernel_rfl
      ·kernel_rfl
      ·kernel_rfl
      ·kernel_rfl
      ·exact fun _ _ _ h => h
      ·(refine Or.inl ⟨by rfl, ?_⟩; intro w_ hSw_; (try dsimp only at hSw_); go_simp; (try with_reducible rfl))
      ·assumption
      (try simp only [Act.put, Lp0, Lp1, Lp2])
      refine' Ords.take (i := 16) ?_ ?_ ?_ ?_ ?_ ?_ ?_ ?_ ?_
      rotate_left 2
      ·(simp only [List.getElem?_toArray, List.getElem?_cons_succ, List.getElem?_cons_zero]; rfl)
      ·kernel_rfl
      ·kernel_rfl
      ·kernel_rfl
      ·kernel_rfl
      ·exact fun _ _ _ h => h
      ·(refine Or.inl ⟨by rfl, ?_⟩; intro w_ hSw_; (try dsimp only at hSw_); go_simp; (try with_reducible rfl))
      ·assumption
      (try simp only [Act.put, Lp0, Lp1, Lp2])
      refine' Ords.take (i := 17) ?_ ?_ ?_ ?_ ?_ ?_ ?_ ?_ ?_
      rotate_left 2
      ·(simp only [List.getElem?_toArray, List.getElem?_cons_succ, List.getElem?_cons_zero]; rfl)
      ·kernel_rfl
      ·kernel_rfl
      ·kernel_rfl
      ·kernel_rfl
      ·exact fun _ _ _ h => h
      ·(refine Or.inl ⟨by rfl, ?_⟩; intro w_ hSw_; (try dsimp only at hSw_); go_simp; (try with_reducible rfl))
      ·assumption
      (try simp only [Act.put, Lp0, Lp1, Lp2])
      refine' Ords.take (i := 18) ?_ ?_ ?_ ?_ ?_ ?_ ?_ ?_ ?_
      rotate_left 2
      ·(simp only [List.getElem?_toArray, List.getElem?_cons_succ, List.getElem?_cons_zero]; rfl)
      ·kernel_rfl
      ·kernel_rfl
      ·kernel_rfl
      ·kernel_rfl
      ·exact fun _ _ _ h => h
      ·(refine Or.inl ⟨by rfl, ?_⟩; intro w_ hSw_; (try dsimp only at hSw_); go_simp; (try with_reducible rfl))
      ·assumption
      (try simp only [Act.put, Lp0, Lp1, Lp2])
      refine' Ords.take (i := 19) ?_ ?_ ?_ ?_ ?_ ?_ ?_ ?_ ?_
      rotate_left 2
      ·(simp only [List.getElem?_toArray, List.getElem?_cons_succ, List.getElem?_cons_zero]; rfl)
      ·kernel_rfl
      ·kernel_rfl
      ·kernel_rfl
      ·kernel_rfl
      ·exact fun _ _ _ h => h
      ·(refine Or.inl ⟨by rfl, ?_⟩; intro w_ hSw_; (try dsimp only at hSw_); go_simp; (try with_reducible rfl))
      ·assumption
      (try simp only [Act.put, Lp0, Lp1, Lp2])
      refine' Ords.take (i := 20) ?_ ?_ ?_ ?_ ?_ ?_ ?_ ?_ ?_
      rotate_left 2
      ·(simp only [List.getElem?_toArray, List.getElem?_cons_succ, List.getElem?_cons_zero]; rfl)
      ·kernel_rfl
      ·kernel_rfl
      ·kernel_rfl
      ·kernel_rfl
      ·exact fun _ _ _ h => h
      ·(refine Or.inl ⟨by rfl, ?_⟩; intro w_ hSw_; (try dsimp only at hSw_); go_simp; (try with_reducible rfl))
      ·assumption
      (try simp only [Act.put, Lp0, Lp1, Lp2])
      refine' Ords.take (i := 21) ?_ ?_ ?_ ?_ ?_ ?_ ?_ ?_ ?_
      rotate_left 2
      ·(simp only [List.getElem?_toArray, List.getElem?_cons_succ, List.getElem?_cons_zero]; rfl)
      ·kernel_rfl
      ·kernel_rfl
      ·kernel_rfl
      ·kernel_rfl
      ·exact fun _ _ _ h => h
      ·(refine Or.inl ⟨by rfl, ?_⟩; intro w_ hSw_; (try dsimp only at hSw_); go_simp; (try with_reducible rfl))
      ·assumption
      (try simp only [Act.put, Lp0, Lp1, Lp2])
      refine' Ords.take (i := 22) ?_ ?_ ?_ ?_ ?_ ?_ ?_ ?_ ?_
      rotate_left 2
      ·(simp only [List.getElem?_toArray, List.getElem?_cons_succ, List.getElem?_cons_zero]; rfl)
      ·kernel_rfl
      ·kernel_rfl
      ·kernel_rfl
      ·kernel_rfl
      ·exact fun _ _ _ h => h
      ·(refine Or.inl ⟨by rfl, ?_⟩; intro w_ hSw_; (try dsimp only at hSw_); go_simp; (try with_reducible rfl))
      ·assumption
      (try simp only [Act.put, Lp0, Lp1, Lp2])
      refine' Ords.take (i := 23) ?_ ?_ ?_ ?_ ?_ ?_ ?_ ?_ ?_
      rotate_left 2
      ·(simp only [List.getElem?_toArray, List.getElem?_cons_succ, List.getElem?_cons_zero]; rfl)
      ·kernel_rfl
      ·kernel_rfl
      ·kernel_rfl
      ·kernel_rfl
      ·exact fun _ _ _ h => h
      ·(refine Or.inl ⟨by rfl, ?_⟩; intro w_ hSw_; (try dsimp only at hSw_); go_simp; (try with_reducible rfl))
      ·assumption
      (try simp only [Act.put, Lp0, Lp1, Lp2])
      refine' Ords.take (i := 24) ?_ ?_ ?_ ?_ ?_ ?_ ?_ ?_ ?_
      rotate_left 2
      ·(simp only [List.getElem?_toArray, List.getElem?_cons_succ, List.getElem?_cons_zero]; rfl)
      ·kernel_rfl
      ·kernel_rfl
      ·kernel_rfl
      ·kernel_rfl
      ·exact fun _ _ _ h => h
      ·(refine Or.inl ⟨by rfl, ?_⟩; intro w_ hSw_; (try dsimp only at hSw_); go_simp; (try with_reducible rfl))
      ·assumption
      (try simp only [Act.put, Lp0, Lp1, Lp2])
      refine' Ords.take (i := 25) ?_ ?_ ?_ ?_ ?_ ?_ ?_ ?_ ?_
      rotate_left 2
      ·(simp only [List.getElem?_toArray, List.getElem?_cons_succ, List.getElem?_cons_zero]; rfl)
      ·kernel_rfl
      ·kernel_rfl
      ·kernel_rfl
      ·kernel_rfl
      ·exact fun _ _ _ h => h
      ·(refine Or.inl ⟨by rfl, ?_⟩; intro w_ hSw_; (try dsimp only at hSw_); go_simp; (try with_reducible rfl))
      ·assumption
      (try simp only [Act.put, Lp0, Lp1, Lp2])
      refine' Ords.take (i := 26) ?_ ?_ ?_ ?_ ?_ ?_ ?_ ?_ ?_
      rotate_left 2
      ·(simp only [List.getElem?_toArray, List.getElem?_cons_succ, List.getElem?_cons_zero]; rfl)
      ·kernel_rfl
      ·kernel_rfl
      ·kernel_rfl
      ·kernel_rfl
      ·exact fun _ _ _ h => h
      ·(refine Or.inl ⟨by rfl, ?_⟩; intro w_ hSw_; (try dsimp only at hSw_); go_simp; (try with_reducible rfl))
      ·assumption
      (try simp only [Act.put, Lp0, Lp1, Lp2])
      have hx0 := rng_alloc (w := xd) (cs := [.int .i64 0, .int .i64 0, .int .i64 0, .int .i64 0]) (t := 55)
      have hx1 := Zn.new_ (w := xd) (cs := ([.int .i64 0, .int .i64 0, .int .i64 0, .int .i64 0] : List Value).toArray) (t := 55)
      have hab : Below xd.heap.size xd (xd.alloc (.cells #[.int .i64 0, .int .i64 0, .int .i64 0, .int .i64 0] 55)) := (Below.refl _ _).alloc (Nat.le_refl _) _
      refine' Ords.step (i := 27) (by kernel_rfl) (by simp only [List.getElem?_toArray, List.getElem?_cons_succ, List.getElem?_cons_zero]; rfl) (fun K hK => ?_)
      go_simp
      skip
      (try go_wp2_with fail)
      refine hK.out _ _ ?_ (fun hHeld => ?_)
      ·exact ⟨keep_alloc hHeld.1, keep_alloc hHeld.2.1, keep_alloc hHeld.2.2.1, keep_alloc hHeld.2.2.2⟩
      clear hK K
      (try simp only [Act.put, Lp0, Lp1, Lp2])
      obtain ⟨wa, hwa⟩ : ∃ x, xd.alloc (.cells #[.int .i64 0, .int .i64 0, .int .i64 0, .int .i64 0] 55) = x := ⟨_, rfl⟩
      have hx0 : wa.rangeAt xd.heap.size 0 [.int .i64 0, .int .i64 0, .int .i64 0, .int .i64 0] := by rw [← hwa]; exact hx0
      have hx1 : Zn wa xd.heap.size := by rw [← hwa]; exact hx1
      rw [hwa] at hab hHeld ⊢
      have hba := bel_step hdb hab
      rw [hds] at hx0 hx1
      (try rw [hds])
      have k0 : wa.cell? ⟨gx, 0, none⟩ = some (.int .i64 0) := hx0 0 _ rfl
      have k1 : wa.cell? ⟨gx, 1, none⟩ = some (.int .i64 0) := hx0 1 _ rfl
      have k2 : wa.cell? ⟨gx, 2, none⟩ = some (.int .i64 0) := hx0 2 _ rfl
      have k3 : wa.cell? ⟨gx, 3, none⟩ = some (.int .i64 0) := hx0 3 _ rfl
      have kf := hx1.fr
      have ltk := cell_lt k0
      clear hwa hab hdb
      refine' Ords.last (by kernel_rfl) (by simp only [List.getElem?_toArray, List.getElem?_cons_succ, List.getElem?_cons_zero]; rfl) (by kernel_rfl) (fun K hK => ?_)
      go_simp
      (try go_wp2_with fail)
      refine hK.out _ _ ?_
      clear hK K
      (try simp only [Act.put, Lp0, Lp1, Lp2])
      have hrx := rng_same (vs := [.int .i64 (F : Int), .int .i64 (Aa : Int), .int .i64 bw, .int .i64 zt]) hx0 hx1 rfl
      have hzx := hx1.set_ (k := gx) (i := 0) (v := .int .i64 (F : Int)) |>.set_ (k := gx) (i := 1) (v := .int .i64 (Aa : Int)) |>.set_ (k := gx) (i := 2) (v := .int .i64 bw) |>.set_ (k := gx) (i := 3) (v := .int .i64 zt)
      have hbx := below_set (below_set (below_set (below_set hba (show wr.heap.size ≤ gx by omega) 0 (.int .i64 (F : Int))) (show wr.heap.size ≤ gx by omega) 1 (.int .i64 (Aa : Int))) (show wr.heap.size ≤ gx by omega) 2 (.int .i64 bw)) (show wr.heap.size ≤ gx by omega) 3 (.int .i64 zt)
      obtain ⟨xw, hxw⟩ : ∃ x, ((((wa.setCell ⟨gx, 0, none⟩ (.int .i64 (F : Int))).setCell ⟨gx, 1, none⟩ (.int .i64 (Aa : Int))).setCell ⟨gx, 2, none⟩ (.int .i64 bw)).setCell ⟨gx, 3, none⟩ (.int .i64 zt)) = x := ⟨_, rfl⟩
      have hrx : xw.rangeAt gx 0 [.int .i64 (F : Int), .int .i64 (Aa : Int), .int .i64 bw, .int .i64 zt] := by rw [← hxw]; exact hrx
      rw [hxw] at hzx hbx ⊢
      have hRx := hR.goes hbx
      replace f0 := keep_cell hbx f0
      replace f1 := keep_cell hbx f1
      replace f2 := keep_cell hbx f2
      replace f3 := keep_cell hbx f3
      replace f4 := keep_cell hbx f4
      obtain ⟨⟨⟨c0, c1⟩, c2⟩, ⟨⟨o0, o1⟩, o2⟩, HBr⟩ := hKp.out xw _ hRx
      have x0 : xw.cell? ⟨gx, 0, none⟩ = some (.int .i64 (F : Int)) := hrx 0 _ rfl
      have x1 : xw.cell? ⟨gx, 1, none⟩ = some (.int .i64 (Aa : Int)) := hrx 1 _ rfl
      have x2 : xw.cell? ⟨gx, 2, none⟩ = some (.int .i64 bw) := hrx 2 _ rfl
      have x3 : xw.cell? ⟨gx, 3, none⟩ = some (.int .i64 zt) := hrx 3 _ rfl
      have hglx := hRx.a.z.lt
      have hzx' := hid hzx
      clear hxw hx0 hx1 k0 k1 k2 k3 kf ltk hba hHeld hR hds hgx0 hglt hzx hbx
      cases zv
      ·have hst2 := hid (show Kf (i + 1) = pntB (W : Int) (H : Int) (Kf i) ⟨(F : Int), (Aa : Int), bw, zt⟩ false from by have := hst3.out; simpa using this)
       clear hst3 f1 f2 f3 f4
       obtain ⟨Ux, Vx, Qx, hpn⟩ := pn_ok (W := W) (H := H) (X := F) (Y := Aa) (bw := bw) (bh := zt) (D := Kf i) (by rw [hlK.out]; exact hsd.out)
       have hKs := hid (show Kf (i + 1) = pntB (W : Int) (H : Int) (Kf i) ⟨(F : Int), (Aa : Int), bw, zt⟩ false from hst2.out)
       rw [← hKs.out] at hpn
       have hwx : IntKind.i64.wrap ((F : Int) + (bw)) = (F : Int) + (bw) := by rw [IntKind.wrap_i64]; omega
       have hwy : IntKind.i64.wrap ((Aa : Int) + (zt)) = (Aa : Int) + (zt) := by rw [IntKind.wrap_i64]; omega
       have hP0 : PxR xw g (Qx Aa 0) xw := PxR.refl (by rw [hpn.zero]; exact hRx.a)
       have hC := hid fun (W' : World) (D' : List Bool) (h : PxR xw g D' W') => (show ((W'.cell? ⟨w.heap.size, 0, none⟩ = some (.int .i64 (W : Int)) ∧ W'.cell? ⟨w.heap.size, 1, none⟩ = some (.int .i64 (H : Int))) ∧ W'.cell? ⟨gb, 2, none⟩ = some (.slice (some ⟨g, 0, none⟩) n q)) ∧ (W'.cell? ⟨gx, 0, none⟩ = some (.int .i64 (F : Int)) ∧ W'.cell? ⟨gx, 1, none⟩ = some (.int .i64 (Aa : Int))) ∧ W'.cell? ⟨gx, 2, none⟩ = some (.int .i64 (bw)) ∧ W'.cell? ⟨gx, 3, none⟩ = some (.int .i64 (zt)) from
        ⟨⟨⟨h.keep (by omega) c0, h.keep (by omega) c1⟩, h.keep hgb o2⟩, ⟨h.keep hgx x0, h.keep hgx x1⟩, h.keep hgx x2, h.keep hgx x3⟩)
       have hfin := hid fun (W' : World) (h : PxR xw g (Kf (i + 1)) W') => (show PxR wc g (Kf (i + 1)) W' from PxR.trans hRx h)
       obtain ⟨Kn, hKn⟩ : ∃ x, Kf (i + 1) = x := ⟨_, rfl⟩
       rw [hKn] at hpn hfin
       replace hKn := hid hKn
       replace hpn := hid hpn
       clear hRx hKs
       obtain ⟨⟨⟨d0, d1⟩, d2⟩, ⟨b0, b1⟩, b2, b3⟩ := hC.out xw _ hP0
       clear c0 c1 c2 o0 o1 o2 x0 x1 x2 x3
       go_wp2
       clear d0 d1 d2 b0 b1 b2 b3
       go_loopw [9] (fun s9 wr => ∃ y : Nat, s9 = .int .i64 y ∧ Aa ≤ y ∧ PxR xw g (Qx y 0) wr) (fun s9 _ => Vx - (intOf s9).toNat)
       case atStart => exact ⟨Aa, rfl, Nat.le_refl _, hP0⟩
       case round =>
        clear hP0
        obtain ⟨y, rfl, hy, hR⟩ := hrel
        obtain ⟨⟨⟨d0, d1⟩, d2⟩, ⟨b0, b1⟩, b2, b3⟩ := hC.out wr _ hR
        by_cases hyv : y < Vx
        ·obtain ⟨hy1, hy2⟩ := (hpn.out.v y).1 hyv
         have hy2i : (y : Int) < (H : Int) := by omega
         have hR1 : PxR xw g (Qx y F) wr := hR.cast (by rw [hpn.out.st])
         clear hR
         go_wp2
         clear d0 d1 d2 b0 b1 b2 b3
         obtain ⟨w0, hw0⟩ : ∃ w0, w0 = wr := ⟨_, rfl⟩
         subst hw0
         go_loopw [10] (fun s10 wr => ∃ x : Nat, s10 = .int .i64 x ∧ F ≤ x ∧ PxR xw g (Qx y x) wr) (fun s10 _ => Ux - (intOf s10).toNat)
         case atStart => exact ⟨F, rfl, Nat.le_refl _, hR1⟩
         case round =>
          clear hR1
          obtain ⟨x, rfl, hx, hR⟩ := hrel
          obtain ⟨⟨⟨d0, d1⟩, d2⟩, ⟨b0, b1⟩, b2, b3⟩ := hC.out wr _ hR
          by_cases hxu : x < Ux
          ·obtain ⟨hx1, hx2⟩ := (hpn.out.u x).1 hxu
           have hx2i : (x : Int) < (W : Int) := by omega
           have hidx := px_place hx2 hy2
           have hm1 : y * W ≤ 4096 * 4096 := Nat.mul_le_mul (by omega) hW4
           have hlq := hpn.out.len y x
           have hR2 := hid (hR.set (j := y * W + x) (by rw [hlq]; exact hidx) false)
           rw [hpn.out.set y x hxu hx hy hyv] at hR2
           obtain ⟨old, hxc⟩ : ∃ v, wr.cell? ⟨g, y * W + x, none⟩ = some v := ⟨_, hR.a.cell (j := y * W + x) (by rw [hlq]; exact hidx)⟩
           have hfz := hR.a.z.fr
           have hidn : y * W + x < n := by have := hnn.out; omega
           have hw1 : IntKind.i64.wrap ((y : Int) * (W : Int)) = ((y * W : Nat) : Int) := by rw [IntKind.wrap_i64, Int.natCast_mul]; rw [← Int.natCast_mul]; omega
           have hw2 : IntKind.i64.wrap (((y * W : Nat) : Int) + (x : Int)) = ((y * W + x : Nat) : Int) := by rw [IntKind.wrap_i64]; omega
           clear hR hm1 hidx hlq
           generalize y * W + x = ix at *
           generalize y * W = iy at *
           have hii : (ix : Int) < (n : Int) := by omega
           go_wp2
           go_roundw
           case rel => exact ⟨x + 1, by go_num, by omega, hR2.out⟩
           case measure => simp [intOf]; omega
          ·have hR2 := hid (hR.cast (hpn.out.row y x (by omega)))
           clear hR
           by_cases hx1 : (x : Int) < (F : Int) + (bw)
           ·have hx2i : ¬ (x : Int) < (W : Int) := fun h => hxu ((hpn.out.u x).2 ⟨hx1, by omega⟩)
            go_wp2
            go_roundw
            case rel => exact ⟨y + 1, by go_num, by omega, hR2.out⟩
            case measure => simp [intOf]; omega
           ·go_wp2
            go_roundw
            case rel => exact ⟨y + 1, by go_num, by omega, hR2.out⟩
            case measure => simp [intOf]; omega
        ·have hR2 := hid (hfin.out wr (hR.cast (hpn.out.fin y (by omega))))
         clear hR
         by_cases hy1 : (y : Int) < (Aa : Int) + (zt)
         ·have hy2i : ¬ (y : Int) < (H : Int) := fun h => hyv ((hpn.out.v y).2 ⟨hy1, by omega⟩)
          go_wp2
          go_roundw
          case rel => exact ⟨i + 1, by go_num, by omega, by rw [hKn.out]; exact hR2.out⟩
          case measure => simp [intOf]; omega
         ·go_wp2
          go_roundw
          case rel => exact ⟨i + 1, by go_num, by omega, by rw [hKn.out]; exact hR2.out⟩
          case measure => simp [intOf]; omega
      ·have hst2 := hid (show Kf (i + 1) = pntB (W : Int) (H : Int) (Kf i) ⟨(Aa : Int), (F : Int), zt, bw⟩ false from by have := hst3.out; simpa using this)
       clear hst3
       go_upto_region 13 with fail
       refine Ords.start (x := 27) (S := fun w' => w'.cell? ⟨b, o + i * 5 + 1, none⟩ = some (.int .i64 (Aa : Int)) ∧ w'.cell? ⟨b, o + i * 5 + 2, none⟩ = some (.int .i64 zt) ∧ w'.cell? ⟨b, o + i * 5 + 3, none⟩ = some (.int .i64 (F : Int)) ∧ w'.cell? ⟨b, o + i * 5 + 4, none⟩ = some (.int .i64 zo)) (by kernel_rfl) ⟨f1, f2, f3, f4⟩ (fun hHeld => ?_)
       have hdb : Below xw.heap.size xw xw.drew := (Below.refl _ _).drew
       generalize xw.drew = xd at hdb hHeld ⊢
       replace hRx := hRx.goes hdb
       replace hrx := rng_below hrx hdb
       have hzx := hzx'.out.below hdb
       have k0 : xd.cell? ⟨gx, 0, none⟩ = some (.int .i64 (F : Int)) := hrx 0 _ rfl
       have k1 : xd.cell? ⟨gx, 1, none⟩ = some (.int .i64 (Aa : Int)) := hrx 1 _ rfl
       have k2 : xd.cell? ⟨gx, 2, none⟩ = some (.int .i64 bw) := hrx 2 _ rfl
       have k3 : xd.cell? ⟨gx, 3, none⟩ = some (.int .i64 zt) := hrx 3 _ rfl
       have kf := hzx.fr
       clear f0 f1 f2 f3 f4 c0 c1 c2 o0 o1 o2 x0 x1 x2 x3 hdb hglx HBr
       refine' Ords.take (i := 0) ?_ ?_ ?_ ?_ ?_ ?_ ?_ ?_ ?_
       rotate_left 2
       ·(simp only [List.getElem?_toArray, List.getElem?_cons_succ, List.getElem?_cons_zero]; rfl)
       ·kernel_rfl
       ·kernel_rfl
       ·kernel_rfl
       ·kernel_rfl
       ·exact fun _ _ _ h => h
       ·(refine Or.inl ⟨by rfl, ?_⟩; intro w_ hSw_; (try dsimp only at hSw_); go_simp; (try with_reducible rfl))
       ·assumption
       (try simp only [Act.put, Lp0, Lp1, Lp2])
       refine' Ords.take (i := 1) ?_ ?_ ?_ ?_ ?_ ?_ ?_ ?_ ?_
       rotate_left 2
       ·(simp only [List.getElem?_toArray, List.getElem?_cons_succ, List.getElem?_cons_zero]; rfl)
       ·kernel_rfl
       ·kernel_rfl
       ·kernel_rfl
       ·kernel_rfl
       ·exact fun _ _ _ h => h
       ·(refine Or.inl ⟨by rfl, ?_⟩; intro w_ hSw_; (try dsimp only at hSw_); go_simp; (try with_reducible rfl))
       ·assumption
       (try simp only [Act.put, Lp0, Lp1, Lp2])
       refine' Ords.take (i := 2) ?_ ?_ ?_ ?_ ?_ ?_ ?_ ?_ ?_
       rotate_left 2
       ·(simp only [List.getElem?_toArray, List.getElem?_cons_succ, List.getElem?_cons_zero]; rfl)
       ·kernel_rfl
       ·kernel_rfl
       ·kernel_rfl
       ·kernel_rfl
       ·exact fun _ _ _ h => h
       ·(refine Or.inl ⟨by rfl, ?_⟩; intro w_ hSw_; (try dsimp only at hSw_); go_simp; (try with_reducible rfl))
       ·assumption
       (try simp only [Act.put, Lp0, Lp1, Lp2])
       refine' Ords.take (i := 3) ?_ ?_ ?_ ?_ ?_ ?_ ?_ ?_ ?_
       rotate_left 2
       ·(simp only [List.getElem?_toArray, List.getElem?_cons_succ, List.getElem?_cons_zero]; rfl)
       ·kernel_rfl
       ·kernel_rfl
       ·kernel_rfl
       ·kernel_rfl
       ·exact fun _ _ _ h => h
       ·(refine Or.inl ⟨by rfl, ?_⟩; intro w_ hSw_; (try dsimp only at hSw_); go_simp; (try with_reducible rfl))
       ·assumption
       (try simp only [Act.put, Lp0, Lp1, Lp2])
       refine' Ords.take (i := 4) ?_ ?_ ?_ ?_ ?_ ?_ ?_ ?_ ?_
       rotate_left 2
       ·(simp only [List.getElem?_toArray, List.getElem?_cons_succ, List.getElem?_cons_zero]; rfl)
       ·kernel_rfl
       ·kernel_rfl
       ·kernel_rfl
       ·kernel_rfl
       ·exact fun _ _ _ h => h
       ·(refine Or.inl ⟨by rfl, ?_⟩; intro w_ hSw_; (try dsimp only at hSw_); go_simp; (try with_reducible rfl))
       ·assumption
       (try simp only [Act.put, Lp0, Lp1, Lp2])
       refine' Ords.take (i := 5) ?_ ?_ ?_ ?_ ?_ ?_ ?_ ?_ ?_
       rotate_left 2
       ·(simp only [List.getElem?_toArray, List.getElem?_cons_succ, List.getElem?_cons_zero]; rfl)
       ·kernel_rfl
       ·kernel_rfl
       ·kernel_rfl
       ·kernel_rfl
       ·exact fun _ _ _ h => h
       ·(refine Or.inl ⟨by rfl, ?_⟩; intro w_ hSw_; (try dsimp only at hSw_); go_simp; (try with_reducible rfl))
       ·assumption
       (try simp only [Act.put, Lp0, Lp1, Lp2])
       refine' Ords.take (i := 6) ?_ ?_ ?_ ?_ ?_ ?_ ?_ ?_ ?_
       rotate_left 2
       ·(simp only [List.getElem?_toArray, List.getElem?_cons_succ, List.getElem?_cons_zero]; rfl)
       ·kernel_rfl
       ·kernel_rfl
       ·kernel_rfl
       ·kernel_rfl
       ·exact fun _ _ _ h => h
       ·(refine Or.inl ⟨by rfl, ?_⟩; intro w_ hSw_; (try dsimp only at hSw_); go_simp; (try with_reducible rfl))
       ·assumption
       (try simp only [Act.put, Lp0, Lp1, Lp2])
       refine' Ords.take (i := 7) ?_ ?_ ?_ ?_ ?_ ?_ ?_ ?_ ?_
       rotate_left 2
       ·(simp only [List.getElem?_toArray, List.getElem?_cons_succ, List.getElem?_cons_zero]; rfl)
       ·kernel_rfl
       ·kernel_rfl
       ·kernel_rfl
       ·kernel_rfl
       ·exact fun _ _ _ h => h
       ·(refine Or.inl ⟨by rfl, ?_⟩; intro w_ hSw_; (try dsimp only at hSw_); go_simp; (try with_reducible rfl))
       ·assumption
       (try simp only [Act.put, Lp0, Lp1, Lp2])
       refine' Ords.take (i := 8) ?_ ?_ ?_ ?_ ?_ ?_ ?_ ?_ ?_
       rotate_left 2
       ·(simp only [List.getElem?_toArray, List.getElem?_cons_succ, List.getElem?_cons_zero]; rfl)
       ·kernel_rfl
       ·kernel_rfl
       ·kernel_rfl
       ·kernel_rfl
       ·exact fun _ _ _ h => h
       ·(refine Or.inl ⟨by rfl, ?_⟩; intro w_ hSw_; (try dsimp only at hSw_); go_simp; (try with_reducible rfl))
       ·assumption
       (try simp only [Act.put, Lp0, Lp1, Lp2])
       refine' Ords.take (i := 9) ?_ ?_ ?_ ?_ ?_ ?_ ?_ ?_ ?_
       rotate_left 2
       ·(simp only [List.getElem?_toArray, List.getElem?_cons_succ, List.getElem?_cons_zero]; rfl)
       ·kernel_rfl
       ·kernel_rfl
       ·kernel_rfl
       ·kernel_rfl
       ·exact fun _ _ _ h => h
       ·(refine Or.inl ⟨by rfl, ?_⟩; intro w_ hSw_; (try dsimp only at hSw_); go_simp; (try with_reducible rfl))
       ·assumption
       (try simp only [Act.put, Lp0, Lp1, Lp2])
       refine' Ords.take (i := 10) ?_ ?_ ?_ ?_ ?_ ?_ ?_ ?_ ?_
       rotate_left 2
       ·(simp only [List.getElem?_toArray, List.getElem?_cons_succ, List.getElem?_cons_zero]; rfl)
       ·kernel_rfl
       ·kernel_rfl
       ·kernel_rfl
       ·kernel_rfl
       ·exact fun _ _ _ h => h
       ·(refine Or.inl ⟨by rfl, ?_⟩; intro w_ hSw_; (try dsimp only at hSw_); go_simp; (try with_reducible rfl))
       ·assumption
       (try simp only [Act.put, Lp0, Lp1, Lp2])
       refine' Ords.take (i := 11) ?_ ?_ ?_ ?_ ?_ ?_ ?_ ?_ ?_
       rotate_left 2
       ·(simp only [List.getElem?_toArray, List.getElem?_cons_succ, List.getElem?_cons_zero]; rfl)
       ·kernel_rfl
       ·kernel_rfl
       ·kernel_rfl
       ·kernel_rfl
       ·exact fun _ _ _ h => h
       ·(refine Or.inl ⟨by rfl, ?_⟩; intro w_ hSw_; (try dsimp only at hSw_); go_simp; (try with_reducible rfl))
       ·assumption
       (try simp only [Act.put, Lp0, Lp1, Lp2])
       refine' Ords.take (i := 12) ?_ ?_ ?_ ?_ ?_ ?_ ?_ ?_ ?_
       rotate_left 2
       ·(simp only [List.getElem?_toArray, List.getElem?_cons_succ, List.getElem?_cons_zero]; rfl)
       ·kernel_rfl
       ·kernel_rfl
       ·kernel_rfl
       ·kernel_rfl
       ·exact fun _ _ _ h => h
       ·(refine Or.inl ⟨by rfl, ?_⟩; intro w_ hSw_; (try dsimp only at hSw_); go_simp; (try with_reducible rfl))
       ·assumption
       (try simp only [Act.put, Lp0, Lp1, Lp2])
       refine' Ords.take (i := 13) ?_ ?_ ?_ ?_ ?_ ?_ ?_ ?_ ?_
       rotate_left 2
       ·(simp only [List.getElem?_toArray, List.getElem?_cons_succ, List.getElem?_cons_zero]; rfl)
       ·kernel_rfl
       ·kernel_rfl
       ·kernel_rfl
       ·kernel_rfl
       ·exact fun _ _ _ h => h
       ·(refine Or.inl ⟨by rfl, ?_⟩; intro w_ hSw_; (try dsimp only at hSw_); go_simp; (try with_reducible rfl))
       ·assumption
       (try simp only [Act.put, Lp0, Lp1, Lp2])
       refine' Ords.take (i := 14) ?_ ?_ ?_ ?_ ?_ ?_ ?_ ?_ ?_
       rotate_left 2
       ·(simp only [List.getElem?_toArray, List.getElem?_cons_succ, List.getElem?_cons_zero]; rfl)
       ·kernel_rfl
       ·kernel_rfl
       ·kernel_rfl
       ·kernel_rfl
       ·exact fun _ _ _ h => h
       ·(refine Or.inl ⟨by rfl, ?_⟩; intro w_ hSw_; (try dsimp only at hSw_); go_simp; (try with_reducible rfl))
       ·assumption
       (try simp only [Act.put, Lp0, Lp1, Lp2])
       refine' Ords.take (i := 15) ?_ ?_ ?_ ?_ ?_ ?_ ?_ ?_ ?_
       rotate_left 2
       ·(simp only [List.getElem?_toArray, List.getElem?_cons_succ, List.getElem?_cons_zero]; rfl)
       ·kernel_rfl
       ·kernel_rfl
       ·kernel_rfl
       ·kernel_rfl
       ·exact fun _ _ _ h => h
       ·(refine Or.inl ⟨by rfl, ?_⟩; intro w_ hSw_; (try dsimp only at hSw_); go_simp; (try with_reducible rfl))
       ·assumption
       (try simp only [Act.put, Lp0, Lp1, Lp2])
       refine' Ords.take (i := 16) ?_ ?_ ?_ ?_ ?_ ?_ ?_ ?_ ?_
       rotate_left 2
       ·(simp only [List.getElem?_toArray, List.getElem?_cons_succ, List.getElem?_cons_zero]; rfl)
       ·kernel_rfl
       ·kernel_rfl
       ·kernel_rfl
       ·kernel_rfl
       ·exact fun _ _ _ h => h
       ·(refine Or.inl ⟨by rfl, ?_⟩; intro w_ hSw_; (try dsimp only at hSw_); go_simp; (try with_reducible rfl))
       ·assumption
       (try simp only [Act.put, Lp0, Lp1, Lp2])
       refine' Ords.take (i := 17) ?_ ?_ ?_ ?_ ?_ ?_ ?_ ?_ ?_
       rotate_left 2
       ·(simp only [List.getElem?_toArray, List.getElem?_cons_succ, List.getElem?_cons_zero]; rfl)
       ·kernel_rfl
       ·kernel_rfl
       ·kernel_rfl
       ·kernel_rfl
       ·exact fun _ _ _ h => h
       ·(refine Or.inl ⟨by rfl, ?_⟩; intro w_ hSw_; (try dsimp only at hSw_); go_simp; (try with_reducible rfl))
       ·assumption
       (try simp only [Act.put, Lp0, Lp1, Lp2])
       refine' Ords.take (i := 18) ?_ ?_ ?_ ?_ ?_ ?_ ?_ ?_ ?_
       rotate_left 2
       ·(simp only [List.getElem?_toArray, List.getElem?_cons_succ, List.getElem?_cons_zero]; rfl)
       ·kernel_rfl
       ·kernel_rfl
       ·kernel_rfl
       ·kernel_rfl
       ·exact fun _ _ _ h => h
       ·(refine Or.inl ⟨by rfl, ?_⟩; intro w_ hSw_; (try dsimp only at hSw_); go_simp; (try with_reducible rfl))
       ·assumption
       (try simp only [Act.put, Lp0, Lp1, Lp2])
       refine' Ords.take (i := 19) ?_ ?_ ?_ ?_ ?_ ?_ ?_ ?_ ?_
       rotate_left 2
       ·(simp only [List.getElem?_toArray, List.getElem?_cons_succ, List.getElem?_cons_zero]; rfl)
       ·kernel_rfl
       ·kernel_rfl
       ·kernel_rfl
       ·kernel_rfl
       ·exact fun _ _ _ h => h
       ·(refine Or.inl ⟨by rfl, ?_⟩; intro w_ hSw_; (try dsimp only at hSw_); go_simp; (try with_reducible rfl))
       ·assumption
       (try simp only [Act.put, Lp0, Lp1, Lp2])
       refine' Ords.take (i := 20) ?_ ?_ ?_ ?_ ?_ ?_ ?_ ?_ ?_
       rotate_left 2
       ·(simp only [List.getElem?_toArray, List.getElem?_cons_succ, List.getElem?_cons_zero]; rfl)
       ·kernel_rfl
       ·kernel_rfl
       ·kernel_rfl
       ·kernel_rfl
       ·exact fun _ _ _ h => h
       ·(refine Or.inl ⟨by rfl, ?_⟩; intro w_ hSw_; (try dsimp only at hSw_); go_simp; (try with_reducible rfl))
       ·assumption
       (try simp only [Act.put, Lp0, Lp1, Lp2])
       refine' Ords.take (i := 21) ?_ ?_ ?_ ?_ ?_ ?_ ?_ ?_ ?_
       rotate_left 2
       ·(simp only [List.getElem?_toArray, List.getElem?_cons_succ, List.getElem?_cons_zero]; rfl)
       ·kernel_rfl
       ·kernel_rfl
       ·kernel_rfl
       ·kernel_rfl
       ·exact fun _ _ _ h => h
       ·(refine Or.inl ⟨by rfl, ?_⟩; intro w_ hSw_; (try dsimp only at hSw_); go_simp; (try with_reducible rfl))
       ·assumption
       (try simp only [Act.put, Lp0, Lp1, Lp2])
       refine' Ords.take (i := 22) ?_ ?_ ?_ ?_ ?_ ?_ ?_ ?_ ?_
       rotate_left 2
       ·(simp only [List.getElem?_toArray, List.getElem?_cons_succ, List.getElem?_cons_zero]; rfl)
       ·kernel_rfl
       ·kernel_rfl
       ·kernel_rfl
       ·kernel_rfl
       ·exact fun _ _ _ h => h
       ·(refine Or.inl ⟨by rfl, ?_⟩; intro w_ hSw_; (try dsimp only at hSw_); go_simp; (try with_reducible rfl))
       ·assumption
       (try simp only [Act.put, Lp0, Lp1, Lp2])
       refine' Ords.take (i := 23) ?_ ?_ ?_ ?_ ?_ ?_ ?_ ?_ ?_
       rotate_left 2
       ·(simp only [List.getElem?_toArray, List.getElem?_cons_succ, List.getElem?_cons_zero]; rfl)
       ·kernel_rfl
       ·kernel_rfl
       ·kernel_rfl
       ·kernel_rfl
       ·exact fun _ _ _ h => h
       ·(refine Or.inl ⟨by rfl, ?_⟩; intro w_ hSw_; (try dsimp only at hSw_); go_simp; (try with_reducible rfl))
       ·assumption
       (try simp only [Act.put, Lp0, Lp1, Lp2])
       refine' Ords.take (i := 24) ?_ ?_ ?_ ?_ ?_ ?_ ?_ ?_ ?_
       rotate_left 2
       ·(simp only [List.getElem?_toArray, List.getElem?_cons_succ, List.getElem?_cons_zero]; rfl)
       ·kernel_rfl
       ·kernel_rfl
       ·kernel_rfl
       ·kernel_rfl
       ·exact fun _ _ _ h => h
       ·(refine Or.inl ⟨by rfl, ?_⟩; intro w_ hSw_; (try dsimp only at hSw_); go_simp; (try with_reducible rfl))
       ·assumption
       (try simp only [Act.put, Lp0, Lp1, Lp2])
       refine' Ords.take (i := 25) ?_ ?_ ?_ ?_ ?_ ?_ ?_ ?_ ?_
       rotate_left 2
       ·(simp only [List.getElem?_toArray, List.getElem?_cons_succ, List.getElem?_cons_zero]; rfl)
       ·kernel_rfl
       ·kernel_rfl
       ·kernel_rfl
       ·kernel_rfl
       ·exact fun _ _ _ h => h
       ·(refine Or.inl ⟨by rfl, ?_⟩; intro w_ hSw_; (try dsimp only at hSw_); go_simp; (try with_reducible rfl))
       ·assumption
       (try simp only [Act.put, Lp0, Lp1, Lp2])
       refine' Ords.take (i := 26) ?_ ?_ ?_ ?_ ?_ ?_ ?_ ?_ ?_
       rotate_left 2
       ·(simp only [List.getElem?_toArray, List.getElem?_cons_succ, List.getElem?_cons_zero]; rfl)
       ·kernel_rfl
       ·kernel_rfl
       ·kernel_rfl
       ·kernel_rfl
       ·exact fun _ _ _ h => h
       ·(refine Or.inl ⟨by rfl, ?_⟩; intro w_ hSw_; (try dsimp only at hSw_); go_simp; (try with_reducible rfl))
       ·assumption
       (try simp only [Act.put, Lp0, Lp1, Lp2])
       refine' Ords.last (by kernel_rfl) (by simp only [List.getElem?_toArray, List.getElem?_cons_succ, List.getElem?_cons_zero]; rfl) (by kernel_rfl) (fun K hK => ?_)
       go_simp
       (try go_wp2_with fail)
       refine hK.out _ _ ?_
       clear hK K
       (try simp only [Act.put, Lp0, Lp1, Lp2])
       have hry := rng_same (vs := [.int .i64 (Aa : Int), .int .i64 (F : Int), .int .i64 zt, .int .i64 bw]) hrx hzx rfl
       have hbw2 := hRx.gb.size
       have hge := hRx.a.z.lt
       obtain ⟨xv, hxv⟩ : ∃ x, ((((xd.setCell ⟨gx, 0, none⟩ (.int .i64 (Aa : Int))).setCell ⟨gx, 1, none⟩ (.int .i64 (F : Int))).setCell ⟨gx, 2, none⟩ (.int .i64 zt)).setCell ⟨gx, 3, none⟩ (.int .i64 bw)) = x := ⟨_, rfl⟩
       have hRx2 : PxR wc g (Kf i) xv := by rw [← hxv]; exact (((hRx.off hgn hgx).off hgn hgx).off hgn hgx).off hgn hgx
       have hry : xv.rangeAt gx 0 [.int .i64 (Aa : Int), .int .i64 (F : Int), .int .i64 zt, .int .i64 bw] := by rw [← hxv]; exact hry
       rw [hxv]
       clear hxv hrx hzx k0 k1 k2 k3 kf hRx
       have hRx := hRx2
       clear hRx2
       obtain ⟨xw, hxw⟩ : ∃ x, x = xv := ⟨_, rfl⟩
       subst hxw
       obtain ⟨⟨⟨c0, c1⟩, c2⟩, ⟨⟨o0, o1⟩, o2⟩, HBr⟩ := hKp.out xw _ hRx
       have x0 : xw.cell? ⟨gx, 0, none⟩ = some (.int .i64 (Aa : Int)) := hry 0 _ rfl
       have x1 : xw.cell? ⟨gx, 1, none⟩ = some (.int .i64 (F : Int)) := hry 1 _ rfl
       have x2 : xw.cell? ⟨gx, 2, none⟩ = some (.int .i64 zt) := hry 2 _ rfl
       have x3 : xw.cell? ⟨gx, 3, none⟩ = some (.int .i64 bw) := hry 3 _ rfl
       obtain ⟨Ux, Vx, Qx, hpn⟩ := pn_ok (W := W) (H := H) (X := Aa) (Y := F) (bw := zt) (bh := bw) (D := Kf i) (by rw [hlK.out]; exact hsd.out)
       have hKs := hid (show Kf (i + 1) = pntB (W : Int) (H : Int) (Kf i) ⟨(Aa : Int), (F : Int), zt, bw⟩ false from hst2.out)
       rw [← hKs.out] at hpn
       have hwx : IntKind.i64.wrap ((Aa : Int) + (zt)) = (Aa : Int) + (zt) := by rw [IntKind.wrap_i64]; omega
       have hwy : IntKind.i64.wrap ((F : Int) + (bw)) = (F : Int) + (bw) := by rw [IntKind.wrap_i64]; omega
       have hP0 : PxR xw g (Qx F 0) xw := PxR.refl (by rw [hpn.zero]; exact hRx.a)
       have hC := hid fun (W' : World) (D' : List Bool) (h : PxR xw g D' W') => (show ((W'.cell? ⟨w.heap.size, 0, none⟩ = some (.int .i64 (W : Int)) ∧ W'.cell? ⟨w.heap.size, 1, none⟩ = some (.int .i64 (H : Int))) ∧ W'.cell? ⟨gb, 2, none⟩ = some (.slice (some ⟨g, 0, none⟩) n q)) ∧ (W'.cell? ⟨gx, 0, none⟩ = some (.int .i64 (Aa : Int)) ∧ W'.cell? ⟨gx, 1, none⟩ = some (.int .i64 (F : Int))) ∧ W'.cell? ⟨gx, 2, none⟩ = some (.int .i64 (zt)) ∧ W'.cell? ⟨gx, 3, none⟩ = some (.int .i64 (bw)) from
        ⟨⟨⟨h.keep (by omega) c0, h.keep (by omega) c1⟩, h.keep hgb o2⟩, ⟨h.keep hgx x0, h.keep hgx x1⟩, h.keep hgx x2, h.keep hgx x3⟩)
       have hfin := hid fun (W' : World) (h : PxR xw g (Kf (i + 1)) W') => (show PxR wc g (Kf (i + 1)) W' from PxR.trans hRx h)
       obtain ⟨Kn, hKn⟩ : ∃ x, Kf (i + 1) = x := ⟨_, rfl⟩
       rw [hKn] at hpn hfin
       replace hKn := hid hKn
       replace hpn := hid hpn
       clear hRx hKs
       obtain ⟨⟨⟨d0, d1⟩, d2⟩, ⟨b0, b1⟩, b2, b3⟩ := hC.out xw _ hP0
       clear c0 c1 c2 o0 o1 o2 x0 x1 x2 x3
       go_wp2
       clear d0 d1 d2 b0 b1 b2 b3
       go_loopw [9] (fun s9 wr => ∃ y : Nat, s9 = .int .i64 y ∧ F ≤ y ∧ PxR xw g (Qx y 0) wr) (fun s9 _ => Vx - (intOf s9).toNat)
       case atStart => exact ⟨F, rfl, Nat.le_refl _, hP0⟩
       case round =>
        clear hP0
        obtain ⟨y, rfl, hy, hR⟩ := hrel
        obtain ⟨⟨⟨d0, d1⟩, d2⟩, ⟨b0, b1⟩, b2, b3⟩ := hC.out wr _ hR
        by_cases hyv : y < Vx
        ·obtain ⟨hy1, hy2⟩ := (hpn.out.v y).1 hyv
         have hy2i : (y : Int) < (H : Int) := by omega
         have hR1 : PxR xw g (Qx y Aa) wr := hR.cast (by rw [hpn.out.st])
         clear hR
         go_wp2
         clear d0 d1 d2 b0 b1 b2 b3
         obtain ⟨w0, hw0⟩ : ∃ w0, w0 = wr := ⟨_, rfl⟩
         subst hw0
         go_loopw [10] (fun s10 wr => ∃ x : Nat, s10 = .int .i64 x ∧ Aa ≤ x ∧ PxR xw g (Qx y x) wr) (fun s10 _ => Ux - (intOf s10).toNat)
         case atStart => exact ⟨Aa, rfl, Nat.le_refl _, hR1⟩
         case round =>
          clear hR1
          obtain ⟨x, rfl, hx, hR⟩ := hrel
          obtain ⟨⟨⟨d0, d1⟩, d2⟩, ⟨b0, b1⟩, b2, b3⟩ := hC.out wr _ hR
          by_cases hxu : x < Ux
          ·obtain ⟨hx1, hx2⟩ := (hpn.out.u x).1 hxu
           have hx2i : (x : Int) < (W : Int) := by omega
           have hidx := px_place hx2 hy2
           have hm1 : y * W ≤ 4096 * 4096 := Nat.mul_le_mul (by omega) hW4
           have hlq := hpn.out.len y x
           have hR2 := hid (hR.set (j := y * W + x) (by rw [hlq]; exact hidx) false)
           rw [hpn.out.set y x hxu hx hy hyv] at hR2
           obtain ⟨old, hxc⟩ : ∃ v, wr.cell? ⟨g, y * W + x, none⟩ = some v := ⟨_, hR.a.cell (j := y * W + x) (by rw [hlq]; exact hidx)⟩
           have hfz := hR.a.z.fr
           have hidn : y * W + x < n := by have := hnn.out; omega
           have hw1 : IntKind.i64.wrap ((y : Int) * (W : Int)) = ((y * W : Nat) : Int) := by rw [IntKind.wrap_i64, Int.natCast_mul]; rw [← Int.natCast_mul]; omega
           have hw2 : IntKind.i64.wrap (((y * W : Nat) : Int) + (x : Int)) = ((y * W + x : Nat) : Int) := by rw [IntKind.wrap_i64]; omega
           clear hR hm1 hidx hlq
           generalize y * W + x = ix at *
           generalize y * W = iy at *
           have hii : (ix : Int) < (n : Int) := by omega
           go_wp2
           go_roundw
           case rel => exact ⟨x + 1, by go_num, by omega, hR2.out⟩
           case measure => simp [intOf]; omega
          ·have hR2 := hid (hR.cast (hpn.out.row y x (by omega)))
           clear hR
           by_cases hx1 : (x : Int) < (Aa : Int) + (zt)
           ·have hx2i : ¬ (x : Int) < (W : Int) := fun h => hxu ((hpn.out.u x).2 ⟨hx1, by omega⟩)
            go_wp2
            go_roundw
            case rel => exact ⟨y + 1, by go_num, by omega, hR2.out⟩
            case measure => simp [intOf]; omega
           ·go_wp2
            go_roundw
            case rel => exact ⟨y + 1, by go_num, by omega, hR2.out⟩
            case measure => simp [intOf]; omega
        ·have hR2 := hid (hfin.out wr (hR.cast (hpn.out.fin y (by omega))))
         clear hR
         by_cases hy1 : (y : Int) < (F : Int) + (bw)
         ·have hy2i : ¬ (y : Int) < (H : Int) := fun h => hyv ((hpn.out.v y).2 ⟨hy1, by omega⟩)
          go_wp2
          go_roundw
          case rel => exact ⟨i + 1, by go_num, by omega, by rw [hKn.out]; exact hR2.out⟩
          case measure => simp [intOf]; omega
         ·go_wp2
          go_roundw
          case rel => exact ⟨i + 1, by go_num, by omega, by rw [hKn.out]; exact hR2.out⟩
          case measure => simp [intOf]; omega
     ·obtain rfl : nl = i := by omega
      have hii : ¬ (nl : Int) < (nl : Int) := by omega
      obtain ⟨⟨⟨k0, k1⟩, k2⟩, zg⟩ := hRs.out wr _ hR
      have hRd := hid (hfl.out _ wr hR (by rw [hn.out]))
      have ltk := cell_lt k0
      have fk := zg.fr
      have HBf := hid (below_set (below_set (below_set HBr (show w.heap.size ≤ w.heap.size + 1 by omega) 0 (.int .i64 (W : Int))) (show w.heap.size ≤ w.heap.size + 1 by omega) 1 (.int .i64 (H : Int))) (show w.heap.size ≤ w.heap.size + 1 by omega) 2 (.slice (some ⟨g, 0, none⟩) n q))
      clear hR zg HBr hM hKp hRs hst hlK hfl
      go_wp2
      refine bodyPost_ret (v := .tuple #[.agg #[.int .i64 (W : Int), .int .i64 (H : Int), .slice (some ⟨g, 0, none⟩) n q], .int .i64 0]) ?_ rfl ?_
      ·simp [results, Tryz.results11, go_sem, k0, k1, k2]
      ·exact ⟨some ⟨g, 0, none⟩, q, by rw [hall.out, hlf.out, hsd.out, hnn.out], by rw [hall.out]; exact hRd.out, HBf.out⟩
end Go.Proofs.YtjfgklhifhaaoaaGreat
