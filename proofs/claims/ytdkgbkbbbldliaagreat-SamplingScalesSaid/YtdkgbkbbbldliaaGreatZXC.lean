/- Homographies, the reference: walk of right. Conditions: none. -/
import Derived.Test.YtdkgbkbbbldliaaGreatZYR
import Derived.Test.YtdkgbkbbbldliaaGreatZAr10
import Derived.Test.YtdkgbkbbbldliaaGreatZXG
import Derived.Test.YtdkgbkbbbldliaaGreatZXB
import Derived.Test.YtdkgbkbbbldliaaGreatZYI
import Derived.Test.YtdkgbkbbbldliaaGreatZYW
set_option linter.unusedVariables false
set_option linter.unusedSimpArgs false
namespace Go.Proofs.YtdkgbkbbbldliaaGreat
open Go.RowKit Big
theorem Q26u : ∃ d, Tryz.prog.underlying 29 = some d ∧ d.isRow = true := ⟨_, Tryz.underlying29, rfl⟩
theorem Q26i : (Tryz.prog.info? 29).map (·.size) = some 4 := by kernel_rfl
theorem HRsz (x : Rf) {w : World} (m : x.mg w) : Calls Tryz.prog 28 #[.agg (Kc x.ze).toArray] w (RetI w (x.sz : Int)) := Dr (w := w) (na := x.na) (nb := x.nb) (k := x.xs.length) (l := x.ys.length) (A := x.A) (B := x.B) (ca := x.ca) (cb := x.cb) (Nat.le_trans m.m1.cap m.m1.max) (Nat.le_trans m.m2.cap m.m2.max)
set_option maxRecDepth 100000 in
set_option maxHeartbeats 8000000 in
theorem HRright_g (x y : Rf) {w : World} (mx : x.mg w) (my : y.mg w) :
  Calls Tryz.prog 76 #[.agg (Kc (zl [x, y])).toArray] w (RetB w (x.v && y.v)) := by
 have HX := hid fun (W : World) (h : Below w.heap.size w W) => Xh (w := W) (na := x.na) (nb := x.nb) (mx.m1.below h) (mx.m2.below h)
 have HY := hid fun (W : World) (h : Below w.heap.size w W) => Xh (w := W) (na := y.na) (nb := y.nb) (my.m1.below h) (my.m2.below h)
 rw [show fvB x.na x.xs x.nb x.ys = x.v from rfl] at HX
 rw [show fvB y.na y.xs y.nb y.ys = y.v from rfl] at HY
 generalize x.v = vx at *
 generalize y.v = vy at *
 clear mx my
 go_enter Tryz.func76, Tryz.ntmps76
 go_upto_region 1 with fail
 refine Kw (P := fun u => Code.wp _ _ _ _ u) (c := Kc (zl [x, y])) ?_
 intro u HB r0 z0 hsz
 have c0 : u.cell? ⟨w.heap.size, 0, none⟩ = some (.bool x.na) := r0 0 _ rfl
 have c1 : u.cell? ⟨w.heap.size, 1, none⟩ = some (.slice x.A x.xs.length x.ca) := r0 1 _ rfl
 have c2 : u.cell? ⟨w.heap.size, 2, none⟩ = some (.bool x.nb) := r0 2 _ rfl
 have c3 : u.cell? ⟨w.heap.size, 3, none⟩ = some (.slice x.B x.ys.length x.cb) := r0 3 _ rfl
 have c4 : u.cell? ⟨w.heap.size, 4, none⟩ = some (.bool y.na) := r0 4 _ rfl
 have c5 : u.cell? ⟨w.heap.size, 5, none⟩ = some (.slice y.A y.xs.length y.ca) := r0 5 _ rfl
 have c6 : u.cell? ⟨w.heap.size, 6, none⟩ = some (.bool y.nb) := r0 6 _ rfl
 have c7 : u.cell? ⟨w.heap.size, 7, none⟩ = some (.slice y.B y.ys.length y.cb) := r0 7 _ rfl
 have lt0 := Kd c0
 clear r0 z0 hsz
 go_wp2_with fail
 refine (HX.out u HB).mono ?_
 rintro e x1 ⟨rfl, hq_⟩
 have HB := Kb HB hq_
 cases vx
 ·go_wp2
  go_ret
  exact ⟨by simp, HB⟩
 ·have c4 := Ka hq_ c4
  have c5 := Ka hq_ c5
  have c6 := Ka hq_ c6
  have c7 := Ka hq_ c7
  clear c0 c1 c2 c3
  go_wp2_with fail
  refine (HY.out x1 HB).mono ?_
  rintro e x2 ⟨rfl, hq_⟩
  go_wp2
  go_ret
  exact ⟨by simp, Kb HB hq_⟩
/-- minor at the number of an entry -/
theorem U5 {l : List ZE} (hl : l.length = 9) {w : World} (hok : ∀ e ∈ l, e.ok w) {k : Nat} (hk : 2 * k + 1 ≤ 16384) (hb : ∀ e ∈ l, Bz k e.z) {i : Nat} (hi : i < 9) {z : Int} (hz : (adjZ (l.map (·.z)))[i]? = some z) {b : Bool} {n : Nat} {xs : List Nat} (I : Iz z b n xs) :
  Calls Tryz.prog 107 #[.agg (Kc l).toArray, .int .i64 ((i % 3 : Nat) : Int), .int .i64 ((i / 3 : Nat) : Int)] w (GZ w b n xs) := by
 obtain ⟨e0, e1, e2, e3, e4, e5, e6, e7, e8, rfl⟩ := nine l hl
 match i, hi with
 | 0, _ => obtain rfl := Option.some.inj hz; exact Qt 0 0 4 8 5 7 (by decide) (by decide) rfl rfl rfl rfl hl hok hk hb I
 | 1, _ => obtain rfl := Option.some.inj hz; exact Qt 1 0 7 2 8 1 (by decide) (by decide) rfl rfl rfl rfl hl hok hk hb (by simpa [Int.mul_comm] using I)
 | 2, _ => obtain rfl := Option.some.inj hz; exact Qt 2 0 1 5 2 4 (by decide) (by decide) rfl rfl rfl rfl hl hok hk hb (by simpa [Int.mul_comm] using I)
 | 3, _ => obtain rfl := Option.some.inj hz; exact Qt 0 1 5 6 3 8 (by decide) (by decide) rfl rfl rfl rfl hl hok hk hb (by simpa [Int.mul_comm] using I)
 | 4, _ => obtain rfl := Option.some.inj hz; exact Qt 1 1 8 0 6 2 (by decide) (by decide) rfl rfl rfl rfl hl hok hk hb (by simpa [Int.mul_comm] using I)
 | 5, _ => obtain rfl := Option.some.inj hz; exact Qt 2 1 2 3 0 5 (by decide) (by decide) rfl rfl rfl rfl hl hok hk hb (by simpa [Int.mul_comm] using I)
 | 6, _ => obtain rfl := Option.some.inj hz; exact Qt 0 2 3 7 4 6 (by decide) (by decide) rfl rfl rfl rfl hl hok hk hb (by simpa [Int.mul_comm] using I)
 | 7, _ => obtain rfl := Option.some.inj hz; exact Qt 1 2 6 1 7 0 (by decide) (by decide) rfl rfl rfl rfl hl hok hk hb (by simpa [Int.mul_comm] using I)
 | 8, _ => obtain rfl := Option.some.inj hz; exact Qt 2 2 0 4 1 3 (by decide) (by decide) rfl rfl rfl rfl hl hok hk hb (by simpa [Int.mul_comm] using I)
set_option maxRecDepth 100000 in
set_option maxHeartbeats 8000000 in
theorem HRadjugate_g (l : List ZE) (hl : l.length = 9) {w : World} (hok : ∀ e ∈ l, e.ok w) {k : Nat} (hk : 2 * k + 1 ≤ 16384) (hb : ∀ e ∈ l, Bz k e.z) :
  Calls Tryz.prog 69 #[.agg (Kc l).toArray] w (RetM w (adjZ (l.map (·.z)))) := by
 have hi := hid (show (Tryz.prog.info? 94).map (·.size) = some (Kc l).length by rw [Kf, hl]; kernel_rfl)
 have hal : (adjZ (l.map (·.z))).length = 9 := Ws (by simpa using hl)
 have HMi := hid fun (W : World) (h : Below w.heap.size w W) (i : Nat) (hi : i < 9) (z : Int) (hz : (adjZ (l.map (·.z)))[i]? = some z) (b : Bool) (n : Nat) (xs : List Nat) (I : Iz z b n xs) => U5 hl (w := W) (fun e he => (hok e he).below h) hk hb hi hz I
 clear hok hb
 generalize adjZ (l.map (·.z)) = ZS at *
 go_enter Tryz.func69, Tryz.ntmps69
 go_upto_region 2 with fail
 refine X5 (P := fun u => Code.wp _ _ _ _ u) ?_
 intro u HB r0 r1 r2 zn0 zn1 zn2 hsz
 have hF : Fil w [(w.heap.size, Kc l), (w.heap.size + 1, Kc Kx)] (w.heap.size + 1 + 1) (sofar ZS 0) u := ⟨HB, by
  intro p hp
  simp only [List.mem_cons, List.not_mem_nil, or_false] at hp
  rcases hp with rfl | rfl
  ·exact ⟨r0, zn0, by dsimp only; omega⟩
  ·exact ⟨r1, zn1, by dsimp only; omega⟩, zn2, by omega, Kx, r2, fun e he => by rw [List.eq_of_mem_replicate he]; exact ZE.zero_ok _, by rw [Zd, hal]; rfl⟩
 clear r0 r1 r2 zn0 zn1 zn2 hsz HB
 go_wp2
 go_loopw [4] (fun s4 wr => ∃ j : Nat, j ≤ 9 ∧ s4 = .int .i64 j ∧ Fil w [(w.heap.size, Kc l), (w.heap.size + 1, Kc Kx)] (w.heap.size + 1 + 1) (sofar ZS j) wr) (fun s4 _ => 9 - (intOf s4).toNat)
 case atStart => exact ⟨0, by omega, rfl, hF⟩
 case round =>
  obtain ⟨j, hj, rfl, hS⟩ := hrel
  clear hF
  by_cases h9 : j < 9
  ·have h9i : (j : Int) < 9 := by omega
   have hjz : ZS[j]? = some (ZS[j]'(by omega)) := List.getElem?_eq_getElem (by omega)
   have hn := sofar_set' hjz
   have HM := HMi.out wr hS.b j h9 _ hjz
   generalize ZS[j]'(by omega) = z at *
   obtain ⟨b, n, xs, I⟩ := iz z
   obtain ⟨r, hr⟩ : ∃ r, j % 3 = r := ⟨_, rfl⟩
   obtain ⟨q, hq⟩ : ∃ q, j / 3 = q := ⟨_, rfl⟩
   rw [hr, hq] at HM
   have e1 : (j : Int) % 3 = (r : Int) := by omega
   have e2 : (j : Int) / 3 = (q : Int) := by omega
   have e3 : (j : Int).tmod 3 = (r : Int) := by rw [Int.tmod_eq_emod_of_nonneg (by omega)]; omega
   have e4 : (j : Int).tdiv 3 = (q : Int) := by rw [Int.tdiv_eq_ediv_of_nonneg (by omega)]; omega
   have e5 : IntKind.i64.wrap (r : Int) = (r : Int) := by rw [IntKind.wrap_i64]; omega
   have e6 : IntKind.i64.wrap (q : Int) = (q : Int) := by rw [IntKind.wrap_i64]; omega
   clear hr hq
   have HM := hid (HM b n xs I.out)
   have hlen : (sofar ZS j).length = 9 := by rw [Xp _ _ (by omega), hal]
   obtain ⟨x0, _, _⟩ := hS.k (w.heap.size, Kc l) (by simp)
   dsimp only at x0
   obtain ⟨td, _, _, c0, c1⟩ := hS.cell (j := j) (by omega)
   obtain ⟨zd_, bd_, nd_, xd_, Ad_, cd_⟩ := td
   dsimp only at c0 c1
   have HN := hid hn
   have HS := hid hS
   clear hS hn hjz
   go_wp2_with (first | refine wpList_load_mid (by rfl) _ _ (by rfl) w.heap.size 0 (by rfl) (Kc l) _ x0 RT54 (by rfl) hi.out ?_ | fail)
   refine HM.out.mono ?_
   rintro e v1 ⟨R, d, rfl, m, h1⟩
   have c0 := Ka h1 c0
   have c1 := Ka h1 c1
   have f0 := (HS.out.zm.below h1).fr
   have hF5 := (HS.out.below h1).set (j := j) (by omega) I.out m
   rw [HN.out] at hF5
   have HF5 := hid hF5
   clear hF5 x0
   go_wp2
   go_roundw
   case rel => exact ⟨j + 1, by omega, by go_num, HF5.out⟩
   case measure => simp [intOf]; omega
  ·obtain rfl : j = 9 := by omega
   have hS' : Fil w [(w.heap.size, Kc l), (w.heap.size + 1, Kc Kx)] (w.heap.size + 1 + 1) ZS wr := by
    have := hS
    rwa [show 9 = ZS.length from hal.symm, Wn] at this
   obtain ⟨lm, e2, e3, e4⟩ := hS'.ex
   obtain ⟨q1, z1, _⟩ := hS'.k (w.heap.size + 1, Kc Kx) (by simp)
   dsimp only at q1 z1
   have e1 : lm.length = 9 := by rw [← List.length_map (·.z), e4, hal]
   have hi9 := hid (show (Tryz.prog.info? 94).map (·.size) = some (Kc lm).length by rw [Kf, e1]; kernel_rfl)
   have hi9' := hid (show (Tryz.prog.info? 94).map (·.size) = some (Kc lm).toArray.size by rw [List.size_toArray, Kf, e1]; kernel_rfl)
   obtain ⟨G1, G2, G3, G4⟩ := Ju (w := w) (l := lm) (cs := Kx) RT54 rfl hi9.out hS'.b (by omega) q1 z1 (by rw [e1]; rfl) e3
   have HF := hid (And.intro e4 (And.intro G3 G4))
   have ht := Kq q1 z1
   rw [show (Kc Kx).length = (Kc lm).toArray.size by rw [List.size_toArray, Kf, Kf, e1]; rfl] at ht
   have ho := all_oneCell_toArray (Km lm)
   clear e1 e3 e4 G1 G3 G4 hS hS' q1 z1 hal
   go_wp2_with (first | refine wpList_load_mid (by rfl) _ _ (by rfl) (w.heap.size + 1 + 1) 0 (by rfl) (Kc lm) _ e2 RT54 (by rfl) hi9.out ?_ | refine wpList_store_mid (by rfl) _ _ _ (by rfl) (w.heap.size + 1) 0 (Kc lm).toArray (by rfl) (by rfl) ht hi9'.out ho ?_ | fail)
   refine bodyPost_ret (v := .agg (Kc lm).toArray) ?_ rfl ?_
   ·simp [results, Tryz.results69, Sem.run_bind, asAddr, Act.put, G2]
   ·exact ⟨lm, rfl, HF.out.1, HF.out.2.2, HF.out.2.1⟩
theorem T24u : ∃ d, Tryz.prog.underlying 27 = some d ∧ d.isRow = true := ⟨_, Tryz.underlying27, rfl⟩
theorem T24i : (Tryz.prog.info? 27).map (·.size) = some 2 := by kernel_rfl
set_option maxRecDepth 100000 in
set_option maxHeartbeats 8000000 in
theorem U9 (l : List ZE) (hl : l.length = 9) {w : World} (hok : ∀ e ∈ l, e.ok w) {k : Nat} (hk : 3 * k + 3 ≤ 16384) (hb : ∀ e ∈ l, Bz k e.z) {b : Bool} {n : Nat} {xs : List Nat} (I : Iz (detZ (l.map (·.z))) b n xs) :
  Calls Tryz.prog 100 #[.agg (Kc l).toArray] w (GZ w b n xs) := by
 obtain ⟨e0, e1, e2, e3, e4, e5, e6, e7, e8, rfl⟩ := nine l hl
 have o0 := hok e0 (by simp)
 have o1 := hok e1 (by simp)
 have o2 := hok e2 (by simp)
 have f0 := hb e0 (by simp)
 have f1 := hb e1 (by simp)
 have f2 := hb e2 (by simp)
 have hba := D3 (m := [e0, e1, e2, e3, e4, e5, e6, e7, e8].map (·.z)) rfl (k := k) (by intro x hx; obtain ⟨e, he, rfl⟩ := List.mem_map.1 hx; exact hb e he)
 simp only [List.map_cons, List.map_nil, adjZ] at hba
 rw [all9] at hba
 obtain ⟨g0, _, _, g1, _, _, g2, _, _⟩ := hba
 have hi := hid (show (Tryz.prog.info? 94).map (·.size) = some (Kc [e0, e1, e2, e3, e4, e5, e6, e7, e8]).length by rw [Kf]; kernel_rfl)
 obtain ⟨b0, k0, L0, I0⟩ := iz (e4.z * e8.z - e5.z * e7.z)
 have HM0 := hid fun (W : World) (h : Below w.heap.size w W) => (show Calls Tryz.prog 107 #[.agg (Kc [e0, e1, e2, e3, e4, e5, e6, e7, e8]).toArray, .int .i64 0, .int .i64 0] W (GZ W b0 k0 L0) from U5 (l := [e0, e1, e2, e3, e4, e5, e6, e7, e8]) rfl (w := W) (fun e he => (hok e he).below h) (k := k) (by omega) hb (i := 0) (by omega) (z := e4.z * e8.z - e5.z * e7.z) rfl I0.out)
 obtain ⟨c0, p0, P0, J0⟩ := iz (e0.z * (e4.z * e8.z - e5.z * e7.z))
 have HX0 := hid fun (W : World) (h : Below w.heap.size w W) (R : Option Addr) (c : Nat) (m_ : Mg W R c L0) => Jy (w := W) o0.i I0.out J0.out (o0.m.below h) m_ (f0.ft (by omega)) (g0.ft (by omega)) ((f0.mul g0).ft (by omega)) rfl
 obtain ⟨b1, k1, L1, I1⟩ := iz (e5.z * e6.z - e3.z * e8.z)
 have HM1 := hid fun (W : World) (h : Below w.heap.size w W) => (show Calls Tryz.prog 107 #[.agg (Kc [e0, e1, e2, e3, e4, e5, e6, e7, e8]).toArray, .int .i64 0, .int .i64 1] W (GZ W b1 k1 L1) from U5 (l := [e0, e1, e2, e3, e4, e5, e6, e7, e8]) rfl (w := W) (fun e he => (hok e he).below h) (k := k) (by omega) hb (i := 3) (by omega) (z := e5.z * e6.z - e3.z * e8.z) rfl I1.out)
 obtain ⟨c1, p1, P1, J1⟩ := iz (e1.z * (e5.z * e6.z - e3.z * e8.z))
 have HX1 := hid fun (W : World) (h : Below w.heap.size w W) (R : Option Addr) (c : Nat) (m_ : Mg W R c L1) => Jy (w := W) o1.i I1.out J1.out (o1.m.below h) m_ (f1.ft (by omega)) (g1.ft (by omega)) ((f1.mul g1).ft (by omega)) rfl
 obtain ⟨b2, k2, L2, I2⟩ := iz (e3.z * e7.z - e4.z * e6.z)
 have HM2 := hid fun (W : World) (h : Below w.heap.size w W) => (show Calls Tryz.prog 107 #[.agg (Kc [e0, e1, e2, e3, e4, e5, e6, e7, e8]).toArray, .int .i64 0, .int .i64 2] W (GZ W b2 k2 L2) from U5 (l := [e0, e1, e2, e3, e4, e5, e6, e7, e8]) rfl (w := W) (fun e he => (hok e he).below h) (k := k) (by omega) hb (i := 6) (by omega) (z := e3.z * e7.z - e4.z * e6.z) rfl I2.out)
 obtain ⟨c2, p2, P2, J2⟩ := iz (e2.z * (e3.z * e7.z - e4.z * e6.z))
 have HX2 := hid fun (W : World) (h : Below w.heap.size w W) (R : Option Addr) (c : Nat) (m_ : Mg W R c L2) => Jy (w := W) o2.i I2.out J2.out (o2.m.below h) m_ (f2.ft (by omega)) (g2.ft (by omega)) ((f2.mul g2).ft (by omega)) rfl
 obtain ⟨sb, sn, sL, SI⟩ := iz (e0.z * (e4.z * e8.z - e5.z * e7.z) + e1.z * (e5.z * e6.z - e3.z * e8.z))
 have HA1 := hid fun (W : World) (R Q : Option Addr) (c d : Nat) (m1 : Mg W R c P0) (m2 : Mg W Q d P1) => Da (w := W) J0.out J1.out SI.out m1 m2 ((f0.mul g0).ft (by omega)) ((f1.mul g1).ft (by omega)) (((f0.mul g0).add (f1.mul g1)).ft (by omega)) rfl
 have HA2 := hid fun (W : World) (R Q : Option Addr) (c d : Nat) (m1 : Mg W R c sL) (m2 : Mg W Q d P2) => Da (w := W) SI.out J2.out I m1 m2 (((f0.mul g0).add (f1.mul g1)).ft (by omega)) ((f2.mul g2).ft (by omega)) ((((f0.mul g0).add (f1.mul g1)).add ((f2.mul g2).mono (Nat.le_succ _))).ft (by omega)) rfl
 clear o0 o1 o2 f0 f1 f2 g0 g1 g2 hok hb I J0 J1 J2 I0 I1 I2 SI
 obtain ⟨d24, u24, row24⟩ := T24u
 go_enter Tryz.func100, Tryz.ntmps100
 go_upto_region 1 with fail
 refine Jc (P := fun u => Code.wp _ _ _ _ u) (c1 := [.bool false, .slice none 0 0]) ?_
 intro u HB r0 r1 zn0 zn1 hsz
 clear hsz
 refine wp_region_held_drew (S := fun w' => w'.rangeAt w.heap.size 0 (Kc [e0, e1, e2, e3, e4, e5, e6, e7, e8])) (by kernel_rfl) ?_ (fun hHeld => ?_)
 ·exact r0
 refine' TKa 0 ?_
 refine tk (i := 1) rfl (by decide +kernel) (yieldsIf_load_mid (by rfl) _ _ (by rfl) (w.heap.size) (0) (by rfl) ([.bool e0.b, .slice e0.A e0.n e0.c]) _ (fun w_ hS_ => Qm [] [e0] [e1, e2, e3, e4, e5, e6, e7, e8] hS_) u24 (by first | rfl | assumption) T24i) (by assumption) (fun _ _ _ h => h) ?_
 (try simp only [Act.put, Lp0, Lp1, Lp2])
 refine tk (i := 2) rfl (by decide +kernel) (yieldsIf_load_mid (by rfl) _ _ (by rfl) (w.heap.size) (0) (by rfl) (Kc [e0, e1, e2, e3, e4, e5, e6, e7, e8]) _ (fun w_ hS_ => hS_) RT54 (by first | rfl | assumption) hi.out) (by assumption) (fun _ _ _ h => h) ?_
 (try simp only [Act.put, Lp0, Lp1, Lp2])
 refine' TKa 5 ?_
 refine tk (i := 6) rfl (by decide +kernel) (yieldsIf_load_mid (by rfl) _ _ (by rfl) (w.heap.size) (2) (by rfl) ([.bool e1.b, .slice e1.A e1.n e1.c]) _ (fun w_ hS_ => Qm [e0] [e1] [e2, e3, e4, e5, e6, e7, e8] hS_) u24 (by first | rfl | assumption) T24i) (by assumption) (fun _ _ _ h => h) ?_
 (try simp only [Act.put, Lp0, Lp1, Lp2])
 refine tk (i := 7) rfl (by decide +kernel) (yieldsIf_load_mid (by rfl) _ _ (by rfl) (w.heap.size) (0) (by rfl) (Kc [e0, e1, e2, e3, e4, e5, e6, e7, e8]) _ (fun w_ hS_ => hS_) RT54 (by first | rfl | assumption) hi.out) (by assumption) (fun _ _ _ h => h) ?_
 (try simp only [Act.put, Lp0, Lp1, Lp2])
 refine' TKa 11 ?_
 refine tk (i := 12) rfl (by decide +kernel) (yieldsIf_load_mid (by rfl) _ _ (by rfl) (w.heap.size) (4) (by rfl) ([.bool e2.b, .slice e2.A e2.n e2.c]) _ (fun w_ hS_ => Qm [e0, e1] [e2] [e3, e4, e5, e6, e7, e8] hS_) u24 (by first | rfl | assumption) T24i) (by assumption) (fun _ _ _ h => h) ?_
 (try simp only [Act.put, Lp0, Lp1, Lp2])
 refine tk (i := 13) rfl (by decide +kernel) (yieldsIf_load_mid (by rfl) _ _ (by rfl) (w.heap.size) (0) (by rfl) (Kc [e0, e1, e2, e3, e4, e5, e6, e7, e8]) _ (fun w_ hS_ => hS_) RT54 (by first | rfl | assumption) hi.out) (by assumption) (fun _ _ _ h => h) ?_
 (try simp only [Act.put, Lp0, Lp1, Lp2])
 have qu : Below u.heap.size u u := Below.refl _ _
 refine BRa 3 (fun K hK => ?_)
 go_simp
 (go_at_call 107; (with_reducible refine (HM0.out _ (Kb HB BG)).mono ?_); rintro e v1 ⟨R0, d0, rfl, m0, hq_⟩; have qv1 : Below u.heap.size u v1 := Kb BG hq_; have r0 := Ke r0 qv1)
 (try go_wp2_with fail)
 refine' HKa hK (by exact r0) (fun hHeld => ?_)
 clear hK K
 refine BRa 4 (fun K hK => ?_)
 go_simp
 (go_at_call 79; (with_reducible refine (HX0.out _ (Kb HB qv1) _ _ m0).mono ?_); rintro e v2 ⟨R1, d1, rfl, m1, hq_⟩; have qv2 : Below u.heap.size u v2 := Kb BG hq_; have pv2 : Below v1.heap.size v1 v2 := Kb (Below.refl _ _) hq_; have r0 := Ke r0 pv2; skip)
 (try go_wp2_with fail)
 refine' HKa hK (by exact r0) (fun hHeld => ?_)
 clear hK K
 refine BRa 8 (fun K hK => ?_)
 go_simp
 (go_at_call 107; (with_reducible refine (HM1.out _ (Kb HB qv2)).mono ?_); rintro e v3 ⟨R2, d2, rfl, m2, hq_⟩; have qv3 : Below u.heap.size u v3 := Kb BG hq_; have pv3 : Below v2.heap.size v2 v3 := Kb (Below.refl _ _) hq_; have r0 := Ke r0 pv3; (have m1 := m1.below pv3))
 (try go_wp2_with fail)
 refine' HKa hK (by exact r0) (fun hHeld => ?_)
 clear hK K
 refine BRa 9 (fun K hK => ?_)
 go_simp
 (go_at_call 79; (with_reducible refine (HX1.out _ (Kb HB qv3) _ _ m2).mono ?_); rintro e v4 ⟨R3, d3, rfl, m3, hq_⟩; have qv4 : Below u.heap.size u v4 := Kb BG hq_; have pv4 : Below v3.heap.size v3 v4 := Kb (Below.refl _ _) hq_; have r0 := Ke r0 pv4; (have m1 := m1.below pv4))
 (try go_wp2_with fail)
 refine' HKa hK (by exact r0) (fun hHeld => ?_)
 clear hK K
 refine BRa 10 (fun K hK => ?_)
 go_simp
 (go_at_call 78; (with_reducible refine (HA1.out _ _ _ _ _ m1 m3).mono ?_); rintro e v5 ⟨R4, d4, rfl, m4, hq_⟩; have qv5 : Below u.heap.size u v5 := Kb BG hq_; have pv5 : Below v4.heap.size v4 v5 := Kb (Below.refl _ _) hq_; have r0 := Ke r0 pv5; skip)
 (try go_wp2_with fail)
 refine' HKa hK (by exact r0) (fun hHeld => ?_)
 clear hK K
 refine BRa 14 (fun K hK => ?_)
 go_simp
 (go_at_call 107; (with_reducible refine (HM2.out _ (Kb HB qv5)).mono ?_); rintro e v6 ⟨R5, d5, rfl, m5, hq_⟩; have qv6 : Below u.heap.size u v6 := Kb BG hq_; have pv6 : Below v5.heap.size v5 v6 := Kb (Below.refl _ _) hq_; have r0 := Ke r0 pv6; (have m4 := m4.below pv6))
 (try go_wp2_with fail)
 refine' HKa hK (by exact r0) (fun hHeld => ?_)
 clear hK K
 refine BRa 15 (fun K hK => ?_)
 go_simp
 (go_at_call 79; (with_reducible refine (HX2.out _ (Kb HB qv6) _ _ m5).mono ?_); rintro e v7 ⟨R6, d6, rfl, m6, hq_⟩; have qv7 : Below u.heap.size u v7 := Kb BG hq_; have pv7 : Below v6.heap.size v6 v7 := Kb (Below.refl _ _) hq_; have r0 := Ke r0 pv7; (have m4 := m4.below pv7))
 (try go_wp2_with fail)
 refine' HKa hK (by exact r0) (fun hHeld => ?_)
 clear hK K
 refine BRa 16 (fun K hK => ?_)
 go_simp
 (go_at_call 78; (with_reducible refine (HA2.out _ _ _ _ _ m4 m6).mono ?_); rintro e v8 ⟨R7, d7, rfl, m7, hq_⟩; have qv8 : Below u.heap.size u v8 := Kb BG hq_; have pv8 : Below v7.heap.size v7 v8 := Kb (Below.refl _ _) hq_; have r0 := Ke r0 pv8; skip)
 (try go_wp2_with fail)
 refine' HKa hK (by exact r0) (fun hHeld => ?_)
 clear hK K
 have r1 := Ke r1 qv8
 have s0 : v8.cell? ⟨w.heap.size + 1, 0, none⟩ = some (.bool false) := r1 0 _ rfl
 have s1 : v8.cell? ⟨w.heap.size + 1, 1, none⟩ = some (.slice none 0 0) := r1 1 _ rfl
 have zn1 := zn1.below qv8
 have f_zn1 := zn1.fr
 have HBx := Kb HB qv8
 clear HM0 HM1 HM2 HX0 HX1 HX2 HA1 HA2
 refine BRa 17 (fun K hK => ?_)
 go_simp
 skip
 (try go_wp2_with fail)
 refine' HKa hK (by exact Jh (Jh r0 (by omega)) (by omega)) (fun hHeld => ?_)
 clear hK K
 refine wpAnyH_done (by kernel_rfl) ?_ _
 go_wp2
 refine bodyPost_ret (v := .agg #[.bool b, .slice R7 n d7]) ?_ rfl ?_
 ·simp [results, Tryz.results100, go_sem, s0, s1]
 ·obtain ⟨j1_, j2_⟩ := Z1 m7 HBx (by omega) s0 s1 (.bool b) (.slice R7 n d7)
  exact ⟨R7, d7, rfl, j1_, j2_⟩
/-- a transformation of which some entries are filled -/
def hsof (N : List Int) (j : Nat) : List Int := homZ (N.take j) ++ List.replicate (18 - 2 * j) 0
theorem hsof_len {N : List Int} (h : N.length = 9) {j : Nat} (hj : j ≤ 9) : (hsof N j).length = 18 := by
 unfold hsof
 rw [List.length_append, Yb, List.length_take, List.length_replicate]
 omega
theorem hsof_next {N : List Int} (h : N.length = 9) {j : Nat} (hj : j < N.length) : ((hsof N j).set (2 * j) N[j]).set (2 * j + 1) 1 = hsof N (j + 1) := by
 unfold hsof
 have e1 : (homZ (N.take j)).length = 2 * j := by rw [Yb]; simp; omega
 have e2 := Yh (homZ (N.take j)) N[j] 1 (18 - 2 * (j + 1))
 rw [e1, show 18 - 2 * (j + 1) + 2 = 18 - 2 * j by omega] at e2
 rw [e2, List.take_succ_eq_append_getElem hj, homZ_snoc]
theorem hsof_all {N : List Int} (h : N.length = 9) : hsof N 9 = homZ N := by
 unfold hsof
 rw [List.take_of_length_le (by omega)]
 simp
/-- a block made and filled with what it holds -/
theorem enterS {v : World} {cs : List Value} {t : TypeId} {P : World → Prop} (H : ∀ U, Below v.heap.size v U → U.rangeAt v.heap.size 0 cs → Zn U v.heap.size → P U) : P ((v.alloc (.cells cs.toArray t)).setCells v.heap.size 0 cs) :=
 H _ (J4 (Nat.le_refl _) _ _ _ ((Below.refl _ _).alloc (Nat.le_refl _) _)) (Wi K4 Zn.new_ rfl) (Zn.sets _ _ _ _ Zn.new_)
set_option maxRecDepth 100000 in
set_option maxHeartbeats 8000000 in
theorem El (l : List ZE) (hl : l.length = 9) {w : World} (hok : ∀ e ∈ l, e.ok w) {k : Nat} (hk : k ≤ 16384) (hb : ∀ e ∈ l, Bz k e.z) :
  Calls Tryz.prog 64 #[.agg (Kc l).toArray] w (Hn w (resZ (l.map (·.z)))) := by
 have hi := hid (show (Tryz.prog.info? 94).map (·.size) = some (Kc l).length by rw [Kf, hl]; kernel_rfl)
 have HA := hid fun (w1 : World) (h : Below w.heap.size w w1) => Gq l hl (w := w1) (fun e he => (hok e he).below h) hk hb
 clear hok hb
 obtain ⟨d32, u32, row32⟩ := T32u
 obtain ⟨Ib, In, IL, I1⟩ := iz 1
 have HFI := hid fun (w1 : World) => Xi (w := w1) I1.out (by omega) (by omega)
 go_enter Tryz.func64, Tryz.ntmps64
 go_upto_region 1 with fail
 refine Jc (P := fun u => Code.wp _ _ _ _ u) ?_
 intro u HB r0 r1 zn0 zn1 hsz
 clear hsz
 have r1 : u.rangeAt (w.heap.size + 1) 0 (Kc Kj) := r1
 go_wp2_with (first | refine wpList_load_mid (by rfl) _ _ (by rfl) w.heap.size 0 (by rfl) (Kc l) _ r0 RT54 (by rfl) hi.out ?_ | fail)
 refine (HA.out _ HB).mono ?_
 rintro e w1 ⟨l1, rfl, hz, hok1, h1⟩
 have hl1 : l1.length = 9 := by rw [← List.length_map (·.z), hz, Q4]; simpa using hl
 have F1 := Jw (P := Tryz.prog) (w := w1) (l := l1) (zs := Kc Kx) 94 (by rw [Kf, hl1]; rfl) (by kernel_rfl)
 simp only [Kx, List.replicate, Kc, ZE.cells, ZE.zero, List.cons_append, List.nil_append] at F1
 have h18 : (Kc l1).length = 18 := by rw [Kf, hl1]
 have HB1 := Kb HB h1
 have r1 := Ke r1 h1
 have zn1 := zn1.below h1
 go_upto_region 2 with fail
 refine Kw (P := fun u => Code.wp _ _ _ _ u) ?_
 intro v hv p0 pz hsz
 have HB := Kb HB1 hv
 have r1 := Ke r1 hv
 have zn1 := zn1.below hv
 clear hsz F1 HA r0 zn0
 have ht2 : (v.alloc (.cells (Kc Kj).toArray 32)).there v.heap.size 0 (Kc Kj).toArray.size := by
  have := Kq (K4 (w := v) (cs := Kc Kj) (t := 32)) Zn.new_
  simpa using this
 have ho := all_oneCell_toArray (Km Kj)
 go_wp2_with (first | refine wpList_store_mid (by rfl) _ _ _ (by rfl) v.heap.size 0 (Kc Kj).toArray (by rfl) (by rfl) ht2 T32i ho ?_ | fail)
 refine enterS (P := fun u => Code.wp _ _ _ _ u) ?_
 intro U hU q5 z5
 have hU0 := hid hU
 have r1 := Ke r1 hU
 have p0 := Ke p0 hU
 have pz := pz.below hU
 have zn1 := zn1.below hU
 have HB2 := Kb HB hU
 have hN9 : (redZ (l.map (·.z))).length = 9 := by rw [Q4]; simpa using hl
 have hlt1 : w.heap.size + 1 < w1.heap.size := Nat.lt_of_le_of_lt (Nat.le_refl _) (by have := (Zn.lt ‹Zn w1 (w.heap.size + 1)›); omega)
 have hlt2 : w1.heap.size < v.heap.size := (Zn.lt ‹Zn v w1.heap.size›)
 have hF : Fil w [(w.heap.size + 1, Kc Kj), (w1.heap.size, Kc l1)] v.heap.size (hsof (redZ (l.map (·.z))) 0) U := ⟨HB2, by
  intro p hp
  simp only [List.mem_cons, List.not_mem_nil, or_false] at hp
  rcases hp with rfl | rfl
  ·exact ⟨r1, zn1, by dsimp only; omega⟩
  ·exact ⟨p0, pz, by dsimp only; omega⟩, z5, HB.size, Kj, q5, fun e he => by rw [List.eq_of_mem_replicate he]; exact ZE.zero_ok _, by simp [hsof, homZ]; rfl⟩
 have hRZ : Hid (resZ (l.map (·.z)) = if le40 (redZ (l.map (·.z))) then (homZ (redZ (l.map (·.z))), 0) else (List.replicate 18 0, 4)) := rfl
 have hle := Dd hok1
 rw [hz] at hle
 have HO1 := hid fun (W : World) (h : Below v.heap.size v W) e (he : e ∈ l1) => ((hok1 e he).below hv).below h
 generalize redZ (l.map (·.z)) = N at *
 clear r1 p0 pz zn1 HB HB2 hU q5 z5 ht2 h1 hv HB1 hok1 h18
 obtain ⟨g1, hg1⟩ : ∃ g1, g1 = w1.heap.size := ⟨_, rfl⟩
 obtain ⟨g5, hg5⟩ : ∃ g5, g5 = v.heap.size := ⟨_, rfl⟩
 rw [← hg1, ← hg5] at hF
 rw [← hg1, ← hg5]
 have hU5 := hid (show v.heap.size ≤ g5 from Nat.le_of_eq hg5.symm)
 have hbU : Below v.heap.size v U := hU0.out
 clear hg1 hg5 hU0
 go_wp2
 go_loopw [6] (fun s6 wr => ∃ j : Nat, j ≤ 9 ∧ s6 = .int .i64 j ∧ Fil w [(w.heap.size + 1, Kc Kj), (g1, Kc l1)] g5 (hsof N j) wr ∧ Below v.heap.size v wr ∧ Hid (∀ i (h : i < l1.length), i < j → l1[i].n ≤ 40)) (fun s6 _ => 9 - (intOf s6).toNat)
 case atStart => exact ⟨0, by omega, rfl, hF, hbU, fun i _ h => by omega⟩
 case round =>
  obtain ⟨j, hj, rfl, hS, hbv, hp⟩ := hrel
  clear hF hbU
  by_cases h9 : j < 9
  ·have h9i : (j : Int) < 9 := by omega
   have hj1 : j < l1.length := by omega
   have hjN : j < N.length := by omega
   obtain ⟨k1, z1, n1⟩ := hS.k (g1, Kc l1) (by simp)
   dsimp only at k1
   obtain ⟨c0, c1⟩ := Jn k1 hj1
   have ox := HO1.out wr hbv _ (List.getElem_mem hj1)
   have hzx : l1[j].z = N[j] := by
    have := congrArg (fun l => l[j]?) hz
    simpa [List.getElem?_map, List.getElem?_eq_getElem hj1, List.getElem?_eq_getElem hjN] using this
   have hbad : ¬ l1[j].n ≤ 40 → le40 N = false := fun h => by
    rw [← hle, decide_eq_false_iff_not]
    exact fun h' => h (h' _ (List.getElem_mem hj1))
   have hgood : l1[j].n ≤ 40 → ∀ i (h : i < l1.length), i < j + 1 → l1[i].n ≤ 40 := fun h i hi hi2 => by
    rcases Nat.lt_or_ge i j with h4 | h4
    ·exact hp.out i hi h4
    ·have e : i = j := by omega
     subst e; exact h
   generalize l1[j] = e at *
   clear hp k1
   by_cases h40 : e.n ≤ 40
   ·have hng : ¬ (40 : Int) < (e.n : Int) := by omega
    have HG := hid (hgood h40)
    have hn := hsof_next hN9 hjN
    rw [← hzx] at hn
    have HN := hid hn
    have hlen := hsof_len hN9 (j := j) (by omega)
    obtain ⟨d0, D0, m0, y0, d1, D1, m1, y1, t0, t1, t2, t3⟩ := hS.cellF (j := j) (by omega)
    have HS := hid hS
    have HX := hid ox
    have lt0 := Kd c0
    have lt1 := Kd t0
    have hne : g1 ≠ g5 := n1
    have HB := Below.refl wr.heap.size wr
    clear hbad hgood h40 hn ox hzx hS z1 n1 hle hRZ
    obtain ⟨ez, eb, en, exs, eA, ec⟩ := e
    dsimp only at *
    go_upto_region 8 with fail
    refine wp_region_held_drew (S := fun w' => w'.cell? ⟨g1, j * 2, none⟩ = some (.bool eb) ∧ w'.cell? ⟨g1, j * 2 + 1, none⟩ = some (.slice eA en ec)) (by kernel_rfl) ?_ (fun hHeld => ?_)
    ·exact ⟨c0, c1⟩
    refine' TKa 0 ?_
    refine' TKa 1 ?_
    refine' TKa 2 ?_
    refine' TKa 3 ?_
    refine' TKa 6 ?_
    refine BRa 4 (fun K hK => ?_)
    go_simp
    (go_at_call 55; (with_reducible refine (HFI.out _).mono ?_); rintro e v1 ⟨R1, q1, rfl, m1, hq1⟩; have qv1 : Below wr.heap.size wr v1 := Kb BG hq1; have c0 := Ka qv1 c0; have c1 := Ka qv1 c1; have t0 := Ka qv1 t0; have t1 := Ka qv1 t1; have t2 := Ka qv1 t2; have t3 := Ka qv1 t3; have fz := (HS.out.below qv1).zm.fr)
    (try go_wp2_with fail)
    refine' HKa hK (by (first | ((try dsimp only); repeat' (first | with_reducible assumption | apply And.intro | (with_reducible refine Kk ?_) | (with_reducible refine Kn ?_) | (with_reducible refine Kh (by omega) ?_) | (with_reducible refine Kp (by omega) ?_) | (with_reducible refine Ka (W := wr) ?_ ?_) | fail)))) (fun hHeld => ?_)
    clear hK K
    refine' TKa 5 ?_
    refine' TKa 7 ?_
    refine BRa 8 (fun K hK => ?_)
    go_simp
    skip
    (try go_wp2_with fail)
    refine' HKa hK (by (exact ⟨Kh (Ne.symm hne) (Kh (Ne.symm hne) (Kh (Ne.symm hne) (Kh (Ne.symm hne) c0))), Kh (Ne.symm hne) (Kh (Ne.symm hne) (Kh (Ne.symm hne) (Kh (Ne.symm hne) c1)))⟩)) (fun hHeld => ?_)
    clear hK K
    refine wpAnyH_done (by kernel_rfl) ?_ _
    have hF5 := (HS.out.below qv1).setF (j := j) (by omega) ⟨ez, eb, en, exs, eA, ec⟩ ⟨1, Ib, In, IL, R1, q1⟩ (HX.out.below qv1) ⟨I1.out, m1⟩
    dsimp only at hF5
    rw [HN.out] at hF5
    have HF5 := hid hF5
    have hb5 := hid (Kg (Kg (Kg (Kg (Kb hbv qv1) hU5.out (j * 4) (.bool eb)) hU5.out (j * 4 + 1) (.slice eA en ec)) hU5.out (j * 4 + 2) (.bool Ib)) hU5.out (j * 4 + 3) (.slice R1 In q1))
    clear hF5
    go_wp2
    go_roundw
    case rel => exact ⟨j + 1, by omega, by go_num, HF5.out, hb5.out, HG.out⟩
    case measure => simp [intOf]; omega
   ·have hng : (40 : Int) < (e.n : Int) := by omega
    rw [hbad h40] at hRZ
    have HR : Hid (resZ (l.map (·.z)) = (List.replicate 18 0, 4)) := hRZ
    obtain ⟨r1, zn1, _⟩ := hS.k (w.heap.size + 1, Kc Kj) (by simp)
    dsimp only at r1 zn1
    have HB := hS.b
    clear hbad hgood h40 hS hbv z1 n1 ox hzx hle hRZ
    go_upto_region 7 with fail
    have ht := Kq r1 zn1
    have ho := all_oneCell_toArray (Km Kj)
    obtain ⟨d32, u32, row32⟩ := T32u
    obtain ⟨G1, G2, G3, G4⟩ := Ju (w := w) (l := Kj) (cs := Kj) u32 row32 T32i HB (by omega) r1 zn1 rfl (fun e he => by rw [List.eq_of_mem_replicate he]; exact ZE.zero_ok _)
    have HF := hid (And.intro G3 G4)
    clear G1 G3 G4
    go_wp2_with (first | refine wpList_store_mid (by rfl) _ _ _ (by rfl) (w.heap.size + 1) 0 (Kc Kj).toArray (by rfl) (by rfl) ht T32i ho ?_ | fail)
    refine bodyPost_ret (v := .tuple #[.agg (Kc Kj).toArray, .int .i64 4]) ?_ rfl ?_
    ·simp [results, Tryz.results64, Sem.run_bind, asAddr, G2]
    ·rw [HR.out]
     exact ⟨Kj, rfl, rfl, HF.out.2, HF.out.1⟩
  ·obtain rfl : j = 9 := by omega
   rw [hsof_all hN9] at hS
   obtain ⟨lh, e2, e3, e4⟩ := hS.ex
   have e1 : lh.length = 18 := by rw [← List.length_map (·.z), e4, Yb, hN9]
   rw [← hle, decide_eq_true (fun e he => by obtain ⟨i, hi, rfl⟩ := List.getElem_of_mem he; exact hp.out i hi (by omega)), if_pos rfl] at hRZ
   have HR : Hid (resZ (l.map (·.z)) = (homZ N, 0)) := hRZ
   obtain ⟨r1, zn1, _⟩ := hS.k (w.heap.size + 1, Kc Kj) (by simp)
   dsimp only at r1 zn1
   have HB := hS.b
   have hi36 := hid (show (Tryz.prog.info? 32).map (·.size) = some (Kc lh).length by rw [Kf, e1]; exact T32i)
   have hi36' := hid (show (Tryz.prog.info? 32).map (·.size) = some (Kc lh).toArray.size by rw [List.size_toArray, Kf, e1]; exact T32i)
   obtain ⟨G1, G2, G3, G4⟩ := Ju (w := w) (l := lh) (cs := Kj) u32 row32 hi36.out HB (by omega) r1 zn1 (by rw [e1]; rfl) e3
   have HF := hid (And.intro e4 (And.intro G3 G4))
   have ht := Kq r1 zn1
   rw [show (Kc Kj).length = (Kc lh).toArray.size by rw [List.size_toArray, Kf, Kf, e1]; rfl] at ht
   have ho := all_oneCell_toArray (Km lh)
   clear e1 e3 e4 G1 G3 G4 hS r1 zn1 hle hRZ hp
   go_wp2_with (first | refine wpList_load_mid (by rfl) _ _ (by rfl) g5 0 (by rfl) (Kc lh) _ e2 u32 row32 hi36.out ?_ | refine wpList_store_mid (by rfl) _ _ _ (by rfl) (w.heap.size + 1) 0 (Kc lh).toArray (by rfl) (by rfl) ht hi36'.out ho ?_ | fail)
   refine bodyPost_ret (v := .tuple #[.agg (Kc lh).toArray, .int .i64 0]) ?_ rfl ?_
   ·simp [results, Tryz.results64, Sem.run_bind, asAddr, Act.put, G2]
   ·rw [HR.out]
    exact ⟨lh, rfl, HF.out.1, HF.out.2.2, HF.out.2.1⟩
end Go.Proofs.YtdkgbkbbbldliaaGreat
