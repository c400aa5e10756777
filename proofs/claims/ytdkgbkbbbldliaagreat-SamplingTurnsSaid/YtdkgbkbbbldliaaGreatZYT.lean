/- Homographies: walk of determinant (package). Conditions: none. -/
import Derived.Test.YtdkgbkbbbldliaaGreatZHm4
import Derived.Test.YtdkgbkbbbldliaaGreatZYQ
import Derived.Test.YtdkgbkbbbldliaaGreatZYP
set_option linter.unusedVariables false
set_option linter.unusedSimpArgs false
namespace Go.Proofs.YtdkgbkbbbldliaaGreat
open Go.RowKit Big
theorem map9 {l : List ZE} {a b c d e f g h i : Int} (hm : l.map (·.z) = [a, b, c, d, e, f, g, h, i]) : ∃ e0 e1 e2 e3 e4 e5 e6 e7 e8 : ZE, l = [e0, e1, e2, e3, e4, e5, e6, e7, e8] ∧ e0.z = a ∧ e1.z = b ∧ e2.z = c ∧ e3.z = d ∧ e4.z = e ∧ e5.z = f ∧ e6.z = g ∧ e7.z = h ∧ e8.z = i := by
 have hl : l.length = 9 := by simpa using congrArg List.length hm
 obtain ⟨e0, e1, e2, e3, e4, e5, e6, e7, e8, rfl⟩ := nine l hl
 simp only [List.map_cons, List.map_nil, List.cons.injEq, and_true] at hm
 exact ⟨e0, e1, e2, e3, e4, e5, e6, e7, e8, rfl, hm⟩
set_option maxRecDepth 100000 in
set_option maxHeartbeats 8000000 in
theorem Gi (l : List ZE) (hl : l.length = 9) {w : World} (hok : ∀ e ∈ l, e.ok w) {k : Nat} (hk : 3 * k + 3 ≤ 16384) (hb : ∀ e ∈ l, Bz k e.z) {b : Bool} {n : Nat} {xs : List Nat} (I : Iz (detZ (l.map (·.z))) b n xs) :
  Calls Tryz.prog 92 #[.agg (Kc l).toArray] w (GZ w b n xs) := by
 have hi := hid (show (Tryz.prog.info? 95).map (·.size) = some (Kc l).length by rw [Kf, hl]; kernel_rfl)
 have hi2 := hid (show (Tryz.prog.info? 95).map (·.size) = some 18 by kernel_rfl)
 have HA := hid fun (w1 : World) (h : Below w.heap.size w w1) => Ul l hl (w := w1) (fun e he => (hok e he).below h) (k := k) (by omega) hb
 have hOK := hid fun (w1 : World) (h : Below w.heap.size w w1) e (he : e ∈ l) => (hok e he).below h
 have hB := hid hb
 have II := hid I
 obtain ⟨a0, a1, a2, a3, a4, a5, a6, a7, a8, hle⟩ := nine l hl
 have HL := hid hle
 clear I hok hb hle
 go_enter Tryz.func92, Tryz.ntmps92
 go_upto_region 1 with fail
 refine Jc (P := fun u => Code.wp _ _ _ _ u) (c1 := [.bool false, .slice none 0 0]) ?_
 intro u HB r0 r1 zn0 zn1 hsz
 clear hsz
 go_wp2_with (first | refine wpList_load_mid (by rfl) _ _ (by rfl) w.heap.size 0 (by rfl) (Kc l) _ r0 T55u (by rfl) hi.out ?_ | fail)
 refine (HA.out _ HB).mono ?_
 rintro e w1 ⟨l', rfl, hz, hok', h1⟩
 have hl' : l'.length = 9 := by rw [← List.length_map (·.z), hz, Ws (by simpa using hl)]
 have F1 := Jt (w := w1) hl' _ hi2.out
 have h18 : (Kc l').length = 18 := by rw [Kf, hl']
 go_wp2_with fail
 refine Kw (P := fun u => Code.wp _ _ _ _ u) ?_
 intro v hbv q0 qz hsz
 clear hsz F1 HA
 have HBv := Kb HB (Kb h1 hbv)
 have r0 := Ke r0 (Kb h1 hbv)
 have s0 : v.cell? ⟨w.heap.size + 1, 0, none⟩ = some (.bool false) := Ke r1 (Kb h1 hbv) 0 _ rfl
 have s1 : v.cell? ⟨w.heap.size + 1, 1, none⟩ = some (.slice none 0 0) := Ke r1 (Kb h1 hbv) 1 _ rfl
 have zn1 := zn1.below (Kb h1 hbv)
 have hok2 : ∀ e ∈ l', e.ok v := fun e he => (hok' e he).below hbv
 have hok3 := hOK.out v HBv
 have hB := hB.out
 have hBa := D3 (m := l.map (·.z)) (by simpa using hl) (k := k) (by intro x hx; obtain ⟨e, he, rfl⟩ := List.mem_map.1 hx; exact hB e he)
 obtain rfl := HL.out
 obtain ⟨e0, e1, e2, e3, e4, e5, e6, e7, e8, rfl, i0, i1, i2, i3, i4, i5, i6, i7, i8⟩ := map9 hz
 have b0 := hB a0 (by simp)
 have b1 := hB a1 (by simp)
 have b2 := hB a2 (by simp)
 simp only [List.map_cons, List.map_nil, adjZ] at hBa
 rw [all9] at hBa
 obtain ⟨d0, d1, d2, d3, d4, d5, d6, d7, d8⟩ := hBa
 rw [← i0] at d0
 rw [← i3] at d3
 rw [← i6] at d6
 have hD : a0.z * e0.z + a1.z * e3.z + a2.z * e6.z = detZ ([a0, a1, a2, a3, a4, a5, a6, a7, a8].map (·.z)) := by rw [i0, i3, i6]; rfl
 have hk2 : k + (2 * k + 1) ≤ 16384 := by omega
 have hF : fits (detZ ([a0, a1, a2, a3, a4, a5, a6, a7, a8].map (·.z))) := hD ▸ (Bz.dot b0 b1 b2 d0 d3 d6).ft (by omega)
 have HD := hid fun (w2 : World) (h : Below v.heap.size v w2) (g' : Nat) (hr : w2.rangeAt g' 0 (Kc [e0, e3, e6])) (ca cb : Nat) => Hdot_g (w := w2) (ca := ca) (cb := cb) (Ke (Qm [] [a0, a1, a2] [a3, a4, a5, a6, a7, a8] r0) h) hr ((hok3 a0 (by simp)).below h) ((hok3 a1 (by simp)).below h) ((hok3 a2 (by simp)).below h) ((hok2 e0 (by simp)).below h) ((hok2 e3 (by simp)).below h) ((hok2 e6 (by simp)).below h) (b0.ft (by omega)) (b1.ft (by omega)) (b2.ft (by omega)) (d0.ft (by omega)) (d3.ft (by omega)) (d6.ft (by omega)) ((b0.mul d0).ft hk2) ((b1.mul d3).ft hk2) ((b2.mul d6).ft hk2) (((b0.mul d0).add (b1.mul d3)).ft (by omega)) hF hD II.out
 have lv := Kd (q0 0 _ rfl)
 have c0 : v.cell? ⟨w1.heap.size, 0, none⟩ = some (.bool e0.b) := q0 0 _ rfl
 have c1 : v.cell? ⟨w1.heap.size, 1, none⟩ = some (.slice e0.A e0.n e0.c) := q0 1 _ rfl
 have c2 : v.cell? ⟨w1.heap.size, 6, none⟩ = some (.bool e3.b) := q0 6 _ rfl
 have c3 : v.cell? ⟨w1.heap.size, 7, none⟩ = some (.slice e3.A e3.n e3.c) := q0 7 _ rfl
 have c4 : v.cell? ⟨w1.heap.size, 12, none⟩ = some (.bool e6.b) := q0 12 _ rfl
 have c5 : v.cell? ⟨w1.heap.size, 13, none⟩ = some (.slice e6.A e6.n e6.c) := q0 13 _ rfl
 have hlt : w.heap.size + 1 < w1.heap.size := Nat.lt_of_lt_of_le (Kd (r1 0 _ rfl)) h1.size
 clear hF hD b0 b1 b2 d0 d1 d2 d3 d4 d5 d6 d7 d8 i0 i1 i2 i3 i4 i5 i6 i7 i8 hB hOK hok2 hok3 hok' hz q0 r0 r1 qz zn0 h18 hl hl'
 obtain ⟨z0, bb0, n0, x0, A0, g0⟩ := e0
 obtain ⟨z3, bb3, n3, x3, A3, g3⟩ := e3
 obtain ⟨z6, bb6, n6, x6, A6, g6⟩ := e6
 dsimp only at *
 simp only [Kc, ZE.cells, List.cons_append, List.nil_append] at HD
 go_region_held3 (fun w' => (w'.cell? ⟨w1.heap.size, 0, none⟩ = some (.bool bb0) ∧ w'.cell? ⟨w1.heap.size, 1, none⟩ = some (.slice A0 n0 g0)) ∧ (w'.cell? ⟨w1.heap.size, 6, none⟩ = some (.bool bb3) ∧ w'.cell? ⟨w1.heap.size, 7, none⟩ = some (.slice A3 n3 g3)) ∧ (w'.cell? ⟨w1.heap.size, 12, none⟩ = some (.bool bb6) ∧ w'.cell? ⟨w1.heap.size, 13, none⟩ = some (.slice A6 n6 g6))) (first | ((try dsimp only); repeat' (first | with_reducible assumption | apply And.intro | (with_reducible refine Kk ?_) | (with_reducible refine Kn ?_) | (with_reducible refine Kh (by omega) ?_) | (with_reducible refine Kp (by omega) ?_) | (with_reducible refine Ka (W := v) ?_ ?_) | fail))) ((go_at_call 72; (refine (HD.out _ ?hb _ ?hr _ _).mono ?hm); (case hb => exact BG); (case hr => exact K4); rintro e y5 ⟨R5, c5', rfl, m5, hq_⟩; have qy5 : Below v.heap.size v y5 := Kb BG hq_; have s0 := Ka qy5 s0; have s1 := Ka qy5 s1; have zn1 := zn1.below qy5; have f_zn1 := zn1.fr))
 all_goals
  have HB := Kb HBv qy5
  go_wp2
  refine bodyPost_ret (v := .agg #[.bool b, .slice R5 n c5']) ?_ rfl ?_
  ·simp [results, Tryz.results92, go_sem, s0, s1]
  ·obtain ⟨j1_, j2_⟩ := Z1 m5 HB (by omega) s0 s1 (.bool b) (.slice R5 n c5')
   exact ⟨R5, c5', rfl, j1_, j2_⟩
theorem take_snoc {l : List ZE} {j : Nat} (hj : j < l.length) : (l.map (·.z)).take (j + 1) = (l.map (·.z)).take j ++ [l[j].z] := by
 rw [List.take_succ_eq_append_getElem (by simpa using hj)]; simp
theorem gcdL_take {l : List ZE} {j : Nat} (hj : j < l.length) : gcdL ((l.map (·.z)).take (j + 1)) = Nat.gcd (gcdL ((l.map (·.z)).take j)) l[j].z.natAbs := by
 rw [take_snoc hj, gcdL_snoc]
theorem Vj {k : Nat} {l : List ZE} (hb : ∀ e ∈ l, Bz k e.z) (j : Nat) : Bz k (gcdL ((l.map (·.z)).take j) : Int) := D2 fun x hx => by
 obtain ⟨e, he, rfl⟩ := List.mem_map.1 (List.mem_of_mem_take hx)
 exact hb e he
theorem sgL_at : ∀ (l : List Int) (j : Nat) (hj : j < l.length), (∀ i (h : i < l.length), i < j → l[i] = 0) → l[j] ≠ 0 → sgL l = decide (l[j] < 0)
 | x :: l, 0, _, _, h => by unfold sgL; rw [if_neg (by simpa using h)]; rfl
 | x :: l, j + 1, hj, h, h2 => by
  have h0 : x = 0 := h 0 (by simp) (by omega)
  unfold sgL
  rw [if_pos h0]
  exact sgL_at l j (by simpa using hj) (fun i hi hij => h (i + 1) (by simpa using hi) (by omega)) h2
theorem upd_take (zs : List Int) (f : Int → Int) (j : Nat) (hj : j < zs.length) : ((zs.take j).map f ++ zs.drop j).set j (f zs[j]) = (zs.take (j + 1)).map f ++ zs.drop (j + 1) := by
 have h1 : ((zs.take j).map f).length = j := by simp; omega
 rw [List.set_append_right _ _ (by omega), h1, Nat.sub_self, List.drop_eq_getElem_cons hj, List.set_cons_zero, List.take_succ_eq_append_getElem hj, List.map_append, List.append_assoc]
 rfl
set_option maxRecDepth 100000 in
set_option maxHeartbeats 8000000 in
theorem Gz (l : List ZE) (hl : l.length = 9) {w : World} (hok : ∀ e ∈ l, e.ok w) {k : Nat} (hk : k ≤ 16384) (hb : ∀ e ∈ l, Bz k e.z) :
  Calls Tryz.prog 90 #[.agg (Kc l).toArray] w (RetMB w (redZ (l.map (·.z))) (decide (gcdL (l.map (·.z)) ≠ 0))) := by
 have hi := hid (show (Tryz.prog.info? 95).map (·.size) = some (Kc l).length by rw [Kf, hl]; kernel_rfl)
 have HIx := fun (w1 : World) (j : Nat) (hj : j < l.length) => Zr w1 l 95 9 hl T55u j hj
 go_enter Tryz.func90, Tryz.ntmps90
 go_upto_region 2 with fail
 refine X5 (P := fun u => Code.wp _ _ _ _ u) ?_
 intro u HB r0 r1 r2 zn0 zn1 zn2 hsz
 have hRS : RS w l ((gcdL ((l.map (·.z)).take 0) : Nat) : Int) u := ⟨HB, r0, r1, zn0, zn1, zn2, fun e he => (hok e he).below HB, ⟨ZE.zero, by simp [ZE.zero, gcdL], ZE.zero_ok u, r2 0 _ rfl, r2 1 _ rfl⟩⟩
 go_wp2_with (refine wpList_load_mid (by rfl) _ _ (by rfl) w.heap.size 0 (by rfl) (Kc l) _ r0 T55u (by rfl) hi.out ?_)
 clear r0 r1 r2 zn0 zn1 zn2 hsz
 go_loopw [12] (fun s12 wr => ∃ j : Nat, j ≤ 9 ∧ s12 = .int .i64 j ∧ RS w l ((gcdL ((l.map (·.z)).take j) : Nat) : Int) wr) (fun s12 _ => 9 - (intOf s12).toNat)
 case atStart => exact ⟨0, by omega, rfl, hRS⟩
 case round =>
  obtain ⟨j, hj, rfl, hS⟩ := hrel
  by_cases h9 : j < 9
  ·have hj2 : j < l.length := by omega
   have hix := HIx wr j hj2
   have hx := hS.ok l[j] (List.getElem_mem hj2)
   have hgn := gcdL_take hj2
   have hbx := hb l[j] (List.getElem_mem hj2)
   have hbd := Vj hb j
   generalize l[j] = e at *
   generalize hd1e : gcdL ((l.map (·.z)).take (j + 1)) = d1 at *
   have HQ := hid hd1e
   clear hd1e
   generalize gcdL ((l.map (·.z)).take j) = d0 at *
   obtain ⟨ed, hd1, hd2, k0, k1⟩ := hS.d
   obtain ⟨b', n', L', I'⟩ := iz (d1 : Int)
   have HG := hid fun (w1 : World) (h : Below wr.heap.size wr w1) => Hgcd_g (w := w1) hd2.i hx.i I'.out (hd2.m.below h) (hx.m.below h) (by rw [hd1]; exact hbd.ft hk) (hbx.ft hk) (by rw [hd1, Int.natAbs_natCast, hgn])
   obtain ⟨ez, eb, en, exs, eA, ec⟩ := e
   obtain ⟨dz, db, dn, dxs, dA, dc⟩ := ed
   dsimp only at *
   have HS := hid hS
   have f2 := hS.z2.fr
   have lt2 := Kd k0
   have h9i : (j : Int) < 9 := by omega
   clear hS hx hgn hbx hbd hd1 hd2 HIx hRS hok hb
   go_wp2_with fail
   refine (HG.out _ ((Below.refl _ _).alloc (Nat.le_refl _) _)).mono ?_
   rintro e' w1 ⟨R, c, rfl, m, h1⟩
   have hb1 : Below wr.heap.size wr w1 := ((Below.refl _ _).alloc (Nat.le_refl _) _).trans (h1.mono (by simp))
   have k0 := Ka hb1 k0
   have k1 := Ka hb1 k1
   have f2 := (HS.out.z2.below hb1).fr
   go_wp2
   go_roundw
   case rel => exact ⟨j + 1, by omega, by go_num, by rw [HQ.out]; exact (HS.out.below hb1).setd I'.out m⟩
   case measure => simp [intOf]; omega
  ·obtain rfl : j = 9 := by omega
   have hS2 : RS w l ((gcdL (l.map (·.z)) : Nat) : Int) wr := by rwa [List.take_of_length_le (by simp; omega)] at hS
   clear hS hRS
   obtain ⟨ed, hd1, hd2, k0, k1⟩ := hS2.d
   have hz0 : ed.n = 0 ↔ gcdL (l.map (·.z)) = 0 := by rw [hd2.i.zero, hd1]; omega
   have hbd := D2 (l := l.map (·.z)) (k := k) (by intro x hx; obtain ⟨e, he, rfl⟩ := List.mem_map.1 hx; exact hb e he)
   by_cases h0 : gcdL (l.map (·.z)) = 0
   ·have HR : Hid (redZ (l.map (·.z)) = l.map (·.z)) := by unfold Hid redZ; rw [if_pos h0]
    have HT : Hid (decide (gcdL (l.map (·.z)) ≠ 0) = false) := by unfold Hid; simp [h0]
    have HZ := hid fun (w1 : World) => W6 (b := ed.b) (n := ed.n) (c := ed.c) (A := ed.A) (w := w1) true (by simp [hz0, h0])
    have HS := hid hS2
    clear hS2 hz0 h0 hbd hd1 hd2
    obtain ⟨dz, db, dn, dxs, dA, dc⟩ := ed
    dsimp only at *
    go_wp2_with fail
    refine (HZ.out _).mono ?_
    rintro e w1 ⟨rfl, h1⟩
    have HS1 := hid (HS.out.below h1)
    have r0 := HS1.out.r0
    obtain ⟨F1, F2, F3, F4⟩ := HS1.out.fin hl
    have HF := hid (And.intro F3 F4)
    have h18 : (Kc l).length = 18 := by rw [Kf, hl]
    clear F3 F4 HS1 HS HIx
    go_wp2_with (refine wpList_load_mid (by rfl) _ _ (by rfl) w.heap.size 0 (by rfl) (Kc l) _ r0 T55u (by rfl) hi.out ?_)
    refine bodyPost_ret (v := .tuple #[.agg (Kc l).toArray, .bool false]) ?_ rfl ?_
    ·simp [results, Tryz.results90, Sem.run_bind, asAddr, F2]
    ·rw [HR.out, HT.out]
     exact ⟨l, rfl, rfl, HF.out.2, HF.out.1⟩
   ·have HZ := hid fun (w1 : World) => W6 (b := ed.b) (n := ed.n) (c := ed.c) (A := ed.A) (w := w1) false (by simp [hz0, h0])
    have HS := hid hS2
    clear hS2 hz0 hbd hd1 hd2
    obtain ⟨dz, db, dn, dxs, dA, dc⟩ := ed
    dsimp only at *
    go_wp2_with fail
    refine (HZ.out _).mono ?_
    rintro e w1 ⟨rfl, h1⟩
    have HS1 := hid (HS.out.below h1)
    clear HS k0 k1 HZ
    have r0 := HS1.out.r0
    go_upto_region 9 with fail
    go_upto_block 2 with (refine wpList_load_mid (by rfl) _ _ (by rfl) w.heap.size 0 (by rfl) (Kc l) _ r0 T55u (by rfl) hi.out ?_)
    have HS2 := hid HS1.out
    have hD0 := sg_ne (b := sgL (l.map (·.z))) h0
    have hbD : Bz k (sg (sgL (l.map (·.z))) (gcdL (l.map (·.z)))) := by
     have := D2 (l := l.map (·.z)) (k := k) (by intro x hx; obtain ⟨e, he, rfl⟩ := List.mem_map.1 hx; exact hb e he)
     unfold Bz at *
     rw [Ja]
     simpa using this
    go_cut [] (fun wx => RS w l (sg (sgL (l.map (·.z))) (gcdL (l.map (·.z)))) wx)
    case first =>
     go_wp2_with fail
     go_loopw [23] (fun s23 wr => ∃ j : Nat, j ≤ 9 ∧ s23 = .int .i64 j ∧ RS w l ((gcdL (l.map (·.z)) : Nat) : Int) wr ∧ Hid (∀ i (h : i < l.length), i < j → l[i].z = 0)) (fun s23 _ => 9 - (intOf s23).toNat)
     case atStart => exact ⟨0, by omega, rfl, HS2.out, fun i _ h => by omega⟩
     case round =>
      obtain ⟨j, hj, rfl, hS, hp⟩ := hrel
      by_cases h9 : j < 9
      ·have hj2 : j < l.length := by omega
       have hix := HIx wr j hj2
       have hx := hS.ok l[j] (List.getElem_mem hj2)
       have h9i : (j : Int) < 9 := by omega
       by_cases hx0 : l[j].z = 0
       ·have hN : Hid (∀ i (h : i < l.length), i < j + 1 → l[i].z = 0) := fun i hi hi2 => by
         rcases Nat.lt_or_ge i j with h4 | h4
         ·exact hp.out i hi h4
         ·have e : i = j := by omega
          subst e; exact hx0
        generalize l[j] = e at *
        have HZ := hid fun (w1 : World) => W6 (b := e.b) (n := e.n) (c := e.c) (A := e.A) (w := w1) true (by simp [hx.i.zero, hx0])
        obtain ⟨ez, eb, en, exs, eA, ec⟩ := e
        dsimp only at *
        have HS := hid hS
        clear hS hx hx0 hp HIx hok hb hbD hD0 HS1 HS2
        go_wp2_with fail
        refine (HZ.out _).mono ?_
        rintro e' w1 ⟨rfl, h1⟩
        have hb1 : Below wr.heap.size wr w1 := ((Below.refl _ _).alloc (Nat.le_refl _) _).trans (h1.mono (by simp))
        go_wp2
        go_roundw
        case rel => exact ⟨j + 1, by omega, by go_num, HS.out.below hb1, hN.out⟩
        case measure => simp [intOf]; omega
       ·have hsg := sgL_at (l.map (·.z)) j (by simpa using hj2) (fun i hi hij => by simpa using hp.out i (by simpa using hi) hij) (by simpa using hx0)
        rw [List.getElem_map] at hsg
        generalize l[j] = e at *
        have HZ := hid fun (w1 : World) => W6 (b := e.b) (n := e.n) (c := e.c) (A := e.A) (w := w1) false (by simp [hx.i.zero, hx0])
        have heb := hx.i.hb
        obtain ⟨ez, eb, en, exs, eA, ec⟩ := e
        dsimp only at *
        rw [← heb] at hsg
        obtain ⟨ed, hd1, hd2, k0, k1⟩ := hS.d
        have HS := hid hS
        have f2 := hS.z2.fr
        clear heb hx hx0 hp HIx hok hb HS1 HS2 hS
        cases eb
        ·have HD : Hid (sg (sgL (l.map (·.z))) (gcdL (l.map (·.z))) = ((gcdL (l.map (·.z)) : Nat) : Int)) := by unfold Hid; rw [hsg]; rfl
         clear hsg hbD hD0 k0 k1 f2 hd1 hd2
         go_wp2_with fail
         refine (HZ.out _).mono ?_
         rintro e' w1 ⟨rfl, h1⟩
         have hb1 : Below wr.heap.size wr w1 := ((Below.refl _ _).alloc (Nat.le_refl _) _).trans (h1.mono (by simp))
         have q0 := Ka h1 (K5 (W := wr) (a := .bool false) (b := .slice eA en ec) (t := 27) rfl)
         go_wp2
         go_meet
         rw [HD.out]
         exact HS.out.below hb1
        ·have HD : Hid (sg (sgL (l.map (·.z))) (gcdL (l.map (·.z))) = -((gcdL (l.map (·.z)) : Nat) : Int)) := by unfold Hid; rw [hsg]; rfl
         obtain ⟨b', n', L', I'⟩ := iz (sg (sgL (l.map (·.z))) (gcdL (l.map (·.z))))
         have HG := hid fun (w1 : World) (h : Below wr.heap.size wr w1) => Neg_g (w := w1) hd2.i I'.out (hd2.m.below h) (by rw [hd1, ← Int.neg_neg ((gcdL (l.map (·.z)) : Nat) : Int), ← HD.out]; have := hbD.ft hk; unfold fits at this ⊢; rwa [Int.natAbs_neg]) (by rw [hd1, HD.out])
         obtain ⟨dz, db, dn, dxs, dA, dc⟩ := ed
         dsimp only at *
         clear hsg hbD hD0 hd1 hd2
         go_wp2_with fail
         refine (HZ.out _).mono ?_
         rintro e' w1 ⟨rfl, h1⟩
         have hb1 : Below wr.heap.size wr w1 := ((Below.refl _ _).alloc (Nat.le_refl _) _).trans (h1.mono (by simp))
         have q0 := Ka h1 (K5 (W := wr) (a := .bool true) (b := .slice eA en ec) (t := 27) rfl)
         have k0 := Ka hb1 k0
         have k1 := Ka hb1 k1
         have f2 := (HS.out.z2.below hb1).fr
         go_wp2_with fail
         refine (HG.out _ hb1).mono ?_
         rintro e' w2 ⟨R, c, rfl, m, h2⟩
         have hb2 := Kb hb1 h2
         have k0 := Ka h2 k0
         have k1 := Ka h2 k1
         have f2 := (HS.out.z2.below hb2).fr
         go_wp2
         go_meet
         exact (HS.out.below hb2).setd I'.out m
      ·obtain rfl : j = 9 := by omega
       refine absurd (Wr.2 fun x hx => ?_) h0
       obtain ⟨e, he, rfl⟩ := List.mem_map.1 hx
       obtain ⟨i, hi2, rfl⟩ := List.getElem_of_mem he
       exact hp.out i hi2 (by omega)
    case rest =>
     have HR : Hid (redZ (l.map (·.z)) = (l.map (·.z)).map fun x => dmQ x (sg (sgL (l.map (·.z))) (gcdL (l.map (·.z))))) := by unfold Hid redZ; rw [if_neg h0]
     have HT : Hid (decide (gcdL (l.map (·.z)) ≠ 0) = true) := by unfold Hid; simp [h0]
     generalize sg (sgL (l.map (·.z))) (gcdL (l.map (·.z))) = D at *
     have r0 := hcut.r0
     have HC := hid hcut
     clear HS1 HS2 hcut
     go_upto_region 16 with fail
     go_wp2_with (refine wpList_load_mid (by rfl) _ _ (by rfl) w.heap.size 0 (by rfl) (Kc l) _ r0 T55u (by rfl) hi.out ?_)
     go_loopw [35] (fun s35 wr => ∃ j : Nat, j ≤ 9 ∧ s35 = .int .i64 j ∧ ∃ l' : List ZE, l'.length = 9 ∧ RS w l' D wr ∧ Hid (l'.map (·.z) = ((l.map (·.z)).take j).map (dmQ · D) ++ (l.map (·.z)).drop j)) (fun s35 _ => 9 - (intOf s35).toNat)
     case atStart => exact ⟨0, by omega, rfl, l, hl, HC.out, by unfold Hid; simp⟩
     case round =>
      obtain ⟨j, hj, rfl, l', hl', hS, hm⟩ := hrel
      by_cases h9 : j < 9
      ·have hj2 : j < l.length := by omega
       have hj3 : j < l'.length := by omega
       have hix := HIx wr j hj2
       have hx := (hok l[j] (List.getElem_mem hj2)).below hS.bel
       have hbx := hb l[j] (List.getElem_mem hj2)
       have hu := upd_take (l.map (·.z)) (dmQ · D) j (by simpa using hj2)
       rw [List.getElem_map, ← hm.out] at hu
       have h9i : (j : Int) < 9 := by omega
       generalize l[j] = e at *
       obtain ⟨ed, hd1, hd2, k0, k1⟩ := hS.d
       obtain ⟨b', n', L', I'⟩ := iz (dmQ e.z D)
       have HG := hid fun (w1 : World) (h : Below wr.heap.size wr w1) => Yu (w := w1) hx.i hd2.i I'.out (hx.m.below h) (hd2.m.below h) (hbx.ft hk) (by rw [hd1]; exact hbD.ft hk) (by rw [hd1]; exact hD0) (by rw [hd1])
       have HU := hid hu
       obtain ⟨ez, eb, en, exs, eA, ec⟩ := e
       obtain ⟨dz, db, dn, dxs, dA, dc⟩ := ed
       obtain ⟨p0, p1⟩ := Jm l' j hj3
       have t0 := hS.r0 _ _ p0
       have t1 := hS.r0 _ _ p1
       rw [Nat.zero_add] at t0 t1
       generalize l'[j].b = tb at *
       generalize l'[j].A = tA at *
       generalize l'[j].n = tn at *
       generalize l'[j].c = tc at *
       dsimp only at *
       have HS := hid hS
       have lt2 := Kd k0
       have lt0 := Kd t0
       clear hu p0 p1 hbx hx hm HIx hok hb hS hd1 hd2 hbD hD0 HC r0
       go_wp2_with fail
       refine (HG.out _ ((Below.refl _ _).alloc (Nat.le_refl _) _)).mono ?_
       rintro e' w1 ⟨R, c, rfl, m, h1⟩
       have hb1 : Below wr.heap.size wr w1 := ((Below.refl _ _).alloc (Nat.le_refl _) _).trans (h1.mono (by simp))
       have t0 := Ka hb1 t0
       have t1 := Ka hb1 t1
       have f0 := (HS.out.z0.below hb1).fr
       go_wp2
       go_roundw
       case rel => exact ⟨j + 1, by omega, by go_num, l'.set j ⟨dmQ ez D, b', n', L', R, c⟩, by simp [hl'], (HS.out.below hb1).setm I'.out m hj3, by unfold Hid; rw [List.map_set]; exact HU.out⟩
       case measure => simp [intOf]; omega
      ·obtain rfl : j = 9 := by omega
       rw [List.take_of_length_le (by simp; omega), List.drop_of_length_le (by simp; omega), List.append_nil, ← HR.out] at hm
       obtain ⟨F1, F2, F3, F4⟩ := hS.fin hl'
       have r0' := hS.r0
       have HF := hid (And.intro F3 F4)
       have h18 : (Kc l').length = 18 := by rw [Kf, hl']
       clear F3 F4 hS HC HIx r0
       have hi' := hid (show (Tryz.prog.info? 95).map (·.size) = some (Kc l').length by rw [Kf, hl']; kernel_rfl)
       go_wp2_with (refine wpList_load_mid (by rfl) _ _ (by rfl) w.heap.size 0 (by rfl) (Kc l') _ r0' T55u (by rfl) hi'.out ?_)
       refine bodyPost_ret (v := .tuple #[.agg (Kc l').toArray, .bool true]) ?_ rfl ?_
       ·simp [results, Tryz.results90, Sem.run_bind, asAddr, F2]
       ·(try rw [HT.out])
        exact ⟨l', rfl, hm.out, HF.out.2, HF.out.1⟩
set_option maxRecDepth 100000 in
set_option maxHeartbeats 8000000 in
theorem Hresult_g (l : List ZE) (hl : l.length = 9) {w : World} (hok : ∀ e ∈ l, e.ok w) {k : Nat} (hk : k ≤ 16384) (hb : ∀ e ∈ l, Bz k e.z) :
  Calls Tryz.prog 68 #[.agg (Kc l).toArray] w (Hn w (resZ (l.map (·.z)))) := by
 have hi := hid (show (Tryz.prog.info? 95).map (·.size) = some (Kc l).length by rw [Kf, hl]; kernel_rfl)
 have HA := hid fun (w1 : World) (h : Below w.heap.size w w1) => Gz l hl (w := w1) (fun e he => (hok e he).below h) hk hb
 clear hok hb
 go_enter Tryz.func68, Tryz.ntmps68
 go_upto_region 1 with fail
 refine Jc (P := fun u => Code.wp _ _ _ _ u) ?_
 intro u HB r0 r1 zn0 zn1 hsz
 clear hsz
 have r1 : u.rangeAt (w.heap.size + 1) 0 (Kc Kj) := r1
 go_wp2_with (first | refine wpList_load_mid (by rfl) _ _ (by rfl) w.heap.size 0 (by rfl) (Kc l) _ r0 T55u (by rfl) hi.out ?_ | fail)
 refine (HA.out _ HB).mono ?_
 rintro e w1 ⟨l1, rfl, hz, hok1, h1⟩
 have hl1 : l1.length = 9 := by rw [← List.length_map (·.z), hz, Q4]; simpa using hl
 have hi1 := hid (show (Tryz.prog.info? 95).map (·.size) = some (Kc l1).length by rw [Kf, hl1]; kernel_rfl)
 have F := Ju (l := l1) (cs := l) T55u rfl hi1.out (Kb HB h1) (Nat.le_refl _) (Ke r0 h1) (zn0.below h1) (by rw [hl, hl1]) hok1
 obtain ⟨F1, F2, F3, F4⟩ := F
 have r1' := Wv (vs := Kc l1) (o := 0) (Ke r1 h1) (show w.heap.size + 1 ≠ w.heap.size by omega)
 have r0' := Wi (Ke r0 h1) (zn0.below h1) (vs := Kc l1) (by rw [Kf, Kf, hl, hl1])
 have z1' := Zn.sets (Kc l1) w1 (k := w.heap.size) _ 0 (zn1.below h1)
 have h18 : (Kc l1).length = 18 := by rw [Kf, hl1]
 generalize hU : w1.setCells w.heap.size 0 (Kc l1) = U at *
 have hRD : Hid (resZ (l.map (·.z)) = if le40 (redZ (l.map (·.z))) then (homZ (redZ (l.map (·.z))), 0) else (List.replicate 18 0, 4)) := rfl
 rw [← hz] at hRD
 have hz9 : (l1.map (·.z)).length = 9 := by simpa using hl1
 have HFi := hid (Hfits_g l1 hl1 (w := U) F4)
 rw [Dd F4] at HFi
 have HIx := fun (w1 : World) (j : Nat) (hj : j < l1.length) => Zr w1 l1 95 9 hl1 T55u j hj
 clear hz r0 r1 zn0 zn1 hok1 HB h1 F2 HA hi
 obtain ⟨I1b, I1n, I1L, I1⟩ := iz 1
 obtain ⟨d32, u32, row32⟩ := T32u
 generalize decide (gcdL (l.map (·.z)) ≠ 0) = tt at *
 cases hc : le40 (l1.map (·.z))
 ·rw [hc] at HFi hRD
  have HR : Hid (resZ (l.map (·.z)) = (List.replicate 18 0, 4)) := by unfold Hid at hRD ⊢; rw [hRD]; rfl
  clear hRD
  go_wp2_with (first | refine wpList_load_mid (by rfl) _ _ (by rfl) w.heap.size 0 (by rfl) (Kc l1) _ r0' T55u (by rfl) hi1.out ?_ | fail)
  refine HFi.out.mono ?_
  rintro e w2 ⟨rfl, h2⟩
  have r1 := Ke r1' h2
  have z1 := z1'.below h2
  have ht := Kq r1 z1
  have ho := all_oneCell_toArray (Km Kj)
  obtain ⟨G1, G2, G3, G4⟩ := Ju (w := w) (l := Kj) (cs := Kj) u32 row32 T32i (Kb F3 h2) (by omega) r1 z1 rfl (fun e he => by rw [List.eq_of_mem_replicate he]; exact ZE.zero_ok _)
  have HF := hid (And.intro G3 G4)
  clear G1 G3 G4 F1 F3 F4 r0' r1' HIx h18 hz9 hl1 hl hi1 I1 hc h2
  go_upto_region 3 with fail
  go_wp2_with (first | refine wpList_store_mid (by rfl) _ _ _ (by rfl) (w.heap.size + 1) 0 (Kc Kj).toArray (by rfl) (by rfl) ht T32i ho ?_ | fail)
  refine bodyPost_ret (v := .tuple #[.agg (Kc Kj).toArray, .int .i64 4]) ?_ rfl ?_
  ·simp [results, Tryz.results68, Sem.run_bind, asAddr, G2]
  ·rw [HR.out]
   exact ⟨Kj, rfl, rfl, HF.out.2, HF.out.1⟩
 ·rw [hc] at HFi hRD
  have HR : Hid (resZ (l.map (·.z)) = (homZ (l1.map (·.z)), 0)) := by unfold Hid at hRD ⊢; rw [hRD]; rfl
  clear hRD
  go_wp2_with (first | refine wpList_load_mid (by rfl) _ _ (by rfl) w.heap.size 0 (by rfl) (Kc l1) _ r0' T55u (by rfl) hi1.out ?_ | fail)
  refine HFi.out.mono ?_
  rintro e w2 ⟨rfl, h2⟩
  have r0 := Ke r0' h2
  have r1 := Ke r1' h2
  have z1 := z1'.below h2
  have HB := Kb F3 h2
  have hlt : w.heap.size + 1 < w2.heap.size := z1.lt
  have hok2 := hid fun (V : World) (hb : Below w2.heap.size w2 V) e (he : e ∈ l1) => ((F4 e he).below h2).below hb
  clear F1 F3 F4 r0' r1' z1' hc h2 HFi hU
  go_upto_region 5 with fail
  refine Kw (P := fun u => Code.wp _ _ _ _ u) ?_
  intro v hbv q0 qz hsz
  have q0 : v.rangeAt w2.heap.size 0 (Kc Kj) := q0
  have r0 := Ke r0 hbv
  go_wp2_with (first | refine wpList_load_mid (by rfl) _ _ (by rfl) w.heap.size 0 (by rfl) (Kc l1) _ r0 T55u (by rfl) hi1.out ?_ | fail)
  have hRH : RH w w2 (w.heap.size + 1) w2.heap.size (l1.map (·.z)) 0 v := ⟨Kb HB hbv, hbv, Ke r1 hbv, z1.below hbv, qz, Kj, rfl, q0, fun e he => by rw [List.eq_of_mem_replicate he]; exact ZE.zero_ok _, by simp [homZ, Kj, ZE.zero]⟩
  clear r0 r1 z1 q0 qz hsz hbv HB
  go_loopw [17] (fun s17 wr => ∃ j : Nat, j ≤ 9 ∧ s17 = .int .i64 j ∧ RH w w2 (w.heap.size + 1) w2.heap.size (l1.map (·.z)) j wr) (fun s17 _ => 9 - (intOf s17).toNat)
  case atStart => exact ⟨0, by omega, rfl, hRH⟩
  case round =>
   obtain ⟨j, hj, rfl, hS⟩ := hrel
   clear hRH
   by_cases h9 : j < 9
   ·have hj2 : j < l1.length := by omega
    have hix := HIx wr j hj2
    have hx := hok2.out wr hS.b2 l1[j] (List.getElem_mem hj2)
    have hz : l1[j].z = (l1.map (·.z))[j]'(by simpa using hj2) := by simp
    have h9i : (j : Int) < 9 := by omega
    generalize l1[j] = e at *
    have HW := hid fun (w3 : World) (h : Below wr.heap.size wr w3) => Hwhole_g (w := w3) hx.i (hx.m.below h) I1.out
    have HX := hid hx
    have HZ := hid hz
    obtain ⟨ez, eb, en, exs, eA, ec⟩ := e
    dsimp only at *
    obtain ⟨lh, e1, e2, e3, e4⟩ := hS.ex
    obtain ⟨b0, A0, n0, c0, b1, A1, n1, c1, t0, t1, t2, t3⟩ := get_F e2 (j := j) (by omega)
    have HS := hid hS
    have lt0 := Kd t0
    clear hS hx hz HIx hok2 e1 e2 e3 e4
    go_wp2_with fail
    refine (HW.out _ ((Below.refl _ _).alloc (Nat.le_refl _) _)).mono ?_
    rintro e' w3 ⟨R, c, rfl, m, m', h3⟩
    have hb1 : Below wr.heap.size wr w3 := ((Below.refl _ _).alloc (Nat.le_refl _) _).trans (h3.mono (by simp))
    have t0 := Ka hb1 t0
    have t1 := Ka hb1 t1
    have t2 := Ka hb1 t2
    have t3 := Ka hb1 t3
    have f0 := (HS.out.zh.below hb1).fr
    go_wp2
    go_roundw
    case rel => exact ⟨j + 1, by omega, by go_num, (HS.out.below hb1).next (p := ⟨ez, eb, en, exs, eA, ec⟩) (q := ⟨1, I1b, I1n, I1L, R, c⟩) hz9 (by omega) (by omega) (by omega) (Nat.le_refl _) HZ.out rfl ⟨HX.out.i, m⟩ ⟨I1.out, m'⟩⟩
    case measure => simp [intOf]; omega
   ·obtain rfl : j = 9 := by omega
    obtain ⟨lh, e1, e2, e3, e4⟩ := hS.ex
    rw [List.take_of_length_le (by omega)] at e4
    simp only [Nat.reduceMul, Nat.sub_self, List.replicate_zero, List.append_nil] at e4
    have hi36 := hid (show (Tryz.prog.info? 32).map (·.size) = some (Kc lh).length by rw [Kf, e1]; exact T32i)
    obtain ⟨G1, G2, G3, G4⟩ := Ju (w := w) (l := lh) (cs := Kj) u32 row32 hi36.out hS.b (by omega) hS.r1 hS.z1 (by rw [e1]; rfl) e3
    have HF := hid (And.intro e4 (And.intro G3 G4))
    have ht := Kq hS.r1 hS.z1
    rw [show (Kc Kj).length = (Kc lh).toArray.size by rw [List.size_toArray, Kf, Kf, e1]; rfl] at ht
    have hi36' := hid (show (Tryz.prog.info? 32).map (·.size) = some (Kc lh).toArray.size by rw [List.size_toArray, Kf, e1]; exact T32i)
    have ho := all_oneCell_toArray (Km lh)
    clear e1 e3 e4 G1 G3 G4 hS
    go_wp2_with (first | refine wpList_load_mid (by rfl) _ _ (by rfl) w2.heap.size 0 (by rfl) (Kc lh) _ e2 u32 row32 hi36.out ?_ | refine wpList_store_mid (by rfl) _ _ _ (by rfl) (w.heap.size + 1) 0 (Kc lh).toArray (by rfl) (by rfl) ht hi36'.out ho ?_ | fail)
    refine bodyPost_ret (v := .tuple #[.agg (Kc lh).toArray, .int .i64 0]) ?_ rfl ?_
    ·simp [results, Tryz.results68, Sem.run_bind, asAddr, G2]
    ·rw [HR.out]
     exact ⟨lh, rfl, HF.out.1, HF.out.2.2, HF.out.2.1⟩
end Go.Proofs.YtdkgbkbbbldliaaGreat
