/- Homographies, the reference: walk of determinant. Conditions: none. -/
import Derived.Test.YtgnfobnkhjlbbaaGreatZYI
import Derived.Test.YtgnfobnkhjlbbaaGreatZXB
import Derived.Test.YtgnfobnkhjlbbaaGreatZYW
set_option linter.unusedVariables false
set_option linter.unusedSimpArgs false
namespace Go.Proofs.YtgnfobnkhjlbbaaGreat
open Go.RowKit Big
theorem T24u : ∃ d, Tryz.prog.underlying 24 = some d ∧ d.isRow = true := ⟨_, Tryz.underlying24, rfl⟩
theorem T24i : (Tryz.prog.info? 24).map (·.size) = some 2 := by kernel_rfl
set_option maxRecDepth 100000 in
set_option maxHeartbeats 8000000 in
theorem HRdeterminant_g (l : List ZE) (hl : l.length = 9) {w : World} (hok : ∀ e ∈ l, e.ok w) {k : Nat} (hk : 3 * k + 3 ≤ 16384) (hb : ∀ e ∈ l, Bz k e.z) {b : Bool} {n : Nat} {xs : List Nat} (I : Iz (detZ (l.map (·.z))) b n xs) :
  Calls Tryz.prog 77 #[.agg (cellsM l).toArray] w (GZ w b n xs) := by
 obtain ⟨e0, e1, e2, e3, e4, e5, e6, e7, e8, rfl⟩ := nine l hl
 have o0 := hok e0 (by simp)
 have o1 := hok e1 (by simp)
 have o2 := hok e2 (by simp)
 have f0 := hb e0 (by simp)
 have f1 := hb e1 (by simp)
 have f2 := hb e2 (by simp)
 have hba := adjZ_bz (m := [e0, e1, e2, e3, e4, e5, e6, e7, e8].map (·.z)) rfl (k := k) (by intro x hx; obtain ⟨e, he, rfl⟩ := List.mem_map.1 hx; exact hb e he)
 simp only [List.map_cons, List.map_nil, adjZ] at hba
 rw [all9] at hba
 obtain ⟨g0, _, _, g1, _, _, g2, _, _⟩ := hba
 have hi := hid (show (Tryz.prog.info? 54).map (·.size) = some (cellsM [e0, e1, e2, e3, e4, e5, e6, e7, e8]).length by rw [cellsM_len]; kernel_rfl)
 obtain ⟨b0, k0, L0, I0⟩ := iz (e4.z * e8.z - e5.z * e7.z)
 have HM0 := hid fun (W : World) (h : Below w.heap.size w W) => (show Calls Tryz.prog 80 #[.agg (cellsM [e0, e1, e2, e3, e4, e5, e6, e7, e8]).toArray, .int .i64 0, .int .i64 0] W (GZ W b0 k0 L0) from HRminor_i (l := [e0, e1, e2, e3, e4, e5, e6, e7, e8]) rfl (w := W) (fun e he => (hok e he).below h) (k := k) (by omega) hb (i := 0) (by omega) (z := e4.z * e8.z - e5.z * e7.z) rfl I0.out)
 obtain ⟨c0, p0, P0, J0⟩ := iz (e0.z * (e4.z * e8.z - e5.z * e7.z))
 have HX0 := hid fun (W : World) (h : Below w.heap.size w W) (R : Option Addr) (c : Nat) (m_ : Mg W R c L0) => HRmul_g (w := W) o0.i I0.out J0.out (o0.m.below h) m_ (f0.ft (by omega)) (g0.ft (by omega)) ((f0.mul g0).ft (by omega)) rfl
 obtain ⟨b1, k1, L1, I1⟩ := iz (e5.z * e6.z - e3.z * e8.z)
 have HM1 := hid fun (W : World) (h : Below w.heap.size w W) => (show Calls Tryz.prog 80 #[.agg (cellsM [e0, e1, e2, e3, e4, e5, e6, e7, e8]).toArray, .int .i64 0, .int .i64 1] W (GZ W b1 k1 L1) from HRminor_i (l := [e0, e1, e2, e3, e4, e5, e6, e7, e8]) rfl (w := W) (fun e he => (hok e he).below h) (k := k) (by omega) hb (i := 3) (by omega) (z := e5.z * e6.z - e3.z * e8.z) rfl I1.out)
 obtain ⟨c1, p1, P1, J1⟩ := iz (e1.z * (e5.z * e6.z - e3.z * e8.z))
 have HX1 := hid fun (W : World) (h : Below w.heap.size w W) (R : Option Addr) (c : Nat) (m_ : Mg W R c L1) => HRmul_g (w := W) o1.i I1.out J1.out (o1.m.below h) m_ (f1.ft (by omega)) (g1.ft (by omega)) ((f1.mul g1).ft (by omega)) rfl
 obtain ⟨b2, k2, L2, I2⟩ := iz (e3.z * e7.z - e4.z * e6.z)
 have HM2 := hid fun (W : World) (h : Below w.heap.size w W) => (show Calls Tryz.prog 80 #[.agg (cellsM [e0, e1, e2, e3, e4, e5, e6, e7, e8]).toArray, .int .i64 0, .int .i64 2] W (GZ W b2 k2 L2) from HRminor_i (l := [e0, e1, e2, e3, e4, e5, e6, e7, e8]) rfl (w := W) (fun e he => (hok e he).below h) (k := k) (by omega) hb (i := 6) (by omega) (z := e3.z * e7.z - e4.z * e6.z) rfl I2.out)
 obtain ⟨c2, p2, P2, J2⟩ := iz (e2.z * (e3.z * e7.z - e4.z * e6.z))
 have HX2 := hid fun (W : World) (h : Below w.heap.size w W) (R : Option Addr) (c : Nat) (m_ : Mg W R c L2) => HRmul_g (w := W) o2.i I2.out J2.out (o2.m.below h) m_ (f2.ft (by omega)) (g2.ft (by omega)) ((f2.mul g2).ft (by omega)) rfl
 obtain ⟨sb, sn, sL, SI⟩ := iz (e0.z * (e4.z * e8.z - e5.z * e7.z) + e1.z * (e5.z * e6.z - e3.z * e8.z))
 have HA1 := hid fun (W : World) (R Q : Option Addr) (c d : Nat) (m1 : Mg W R c P0) (m2 : Mg W Q d P1) => HRadd_g (w := W) J0.out J1.out SI.out m1 m2 ((f0.mul g0).ft (by omega)) ((f1.mul g1).ft (by omega)) (((f0.mul g0).add (f1.mul g1)).ft (by omega)) rfl
 have HA2 := hid fun (W : World) (R Q : Option Addr) (c d : Nat) (m1 : Mg W R c sL) (m2 : Mg W Q d P2) => HRadd_g (w := W) SI.out J2.out I m1 m2 (((f0.mul g0).add (f1.mul g1)).ft (by omega)) ((f2.mul g2).ft (by omega)) ((((f0.mul g0).add (f1.mul g1)).add ((f2.mul g2).mono (Nat.le_succ _))).ft (by omega)) rfl
 clear o0 o1 o2 f0 f1 f2 g0 g1 g2 hok hb I J0 J1 J2 I0 I1 I2 SI
 obtain ⟨d24, u24, row24⟩ := T24u
 go_enter Tryz.func77, Tryz.ntmps77
 go_upto_region 1 with fail
 refine enterR2 (P := fun u => Code.wp _ _ _ _ u) (c1 := [.bool false, .slice none 0 0]) ?_
 intro u HB r0 r1 zn0 zn1 hsz
 clear hsz
 refine wp_region_held_drew (S := fun w' => w'.rangeAt w.heap.size 0 (cellsM [e0, e1, e2, e3, e4, e5, e6, e7, e8])) (by kernel_rfl) ?_ (fun hHeld => ?_)
 ·exact r0
 refine' tk (i := 0) rfl (by decide +kernel) (Or.inl ⟨by rfl, ?_⟩) (by assumption) (fun _ _ _ h => h) ?_
 rotate_left 1
 ·(intro w_ hSw_; (try dsimp only at hSw_); go_simp; (try with_reducible rfl))
 (try simp only [Act.put, Lp0, Lp1, Lp2])
 refine tk (i := 1) rfl (by decide +kernel) (yieldsIf_load_mid (by rfl) _ _ (by rfl) (w.heap.size) (0) (by rfl) ([.bool e0.b, .slice e0.A e0.n e0.c]) _ (fun w_ hS_ => rng_mid [] [e0] [e1, e2, e3, e4, e5, e6, e7, e8] hS_) u24 (by first | rfl | assumption) T24i) (by assumption) (fun _ _ _ h => h) ?_
 (try simp only [Act.put, Lp0, Lp1, Lp2])
 refine tk (i := 2) rfl (by decide +kernel) (yieldsIf_load_mid (by rfl) _ _ (by rfl) (w.heap.size) (0) (by rfl) (cellsM [e0, e1, e2, e3, e4, e5, e6, e7, e8]) _ (fun w_ hS_ => hS_) RT54 (by first | rfl | assumption) hi.out) (by assumption) (fun _ _ _ h => h) ?_
 (try simp only [Act.put, Lp0, Lp1, Lp2])
 refine' tk (i := 5) rfl (by decide +kernel) (Or.inl ⟨by rfl, ?_⟩) (by assumption) (fun _ _ _ h => h) ?_
 rotate_left 1
 ·(intro w_ hSw_; (try dsimp only at hSw_); go_simp; (try with_reducible rfl))
 (try simp only [Act.put, Lp0, Lp1, Lp2])
 refine tk (i := 6) rfl (by decide +kernel) (yieldsIf_load_mid (by rfl) _ _ (by rfl) (w.heap.size) (2) (by rfl) ([.bool e1.b, .slice e1.A e1.n e1.c]) _ (fun w_ hS_ => rng_mid [e0] [e1] [e2, e3, e4, e5, e6, e7, e8] hS_) u24 (by first | rfl | assumption) T24i) (by assumption) (fun _ _ _ h => h) ?_
 (try simp only [Act.put, Lp0, Lp1, Lp2])
 refine tk (i := 7) rfl (by decide +kernel) (yieldsIf_load_mid (by rfl) _ _ (by rfl) (w.heap.size) (0) (by rfl) (cellsM [e0, e1, e2, e3, e4, e5, e6, e7, e8]) _ (fun w_ hS_ => hS_) RT54 (by first | rfl | assumption) hi.out) (by assumption) (fun _ _ _ h => h) ?_
 (try simp only [Act.put, Lp0, Lp1, Lp2])
 refine' tk (i := 11) rfl (by decide +kernel) (Or.inl ⟨by rfl, ?_⟩) (by assumption) (fun _ _ _ h => h) ?_
 rotate_left 1
 ·(intro w_ hSw_; (try dsimp only at hSw_); go_simp; (try with_reducible rfl))
 (try simp only [Act.put, Lp0, Lp1, Lp2])
 refine tk (i := 12) rfl (by decide +kernel) (yieldsIf_load_mid (by rfl) _ _ (by rfl) (w.heap.size) (4) (by rfl) ([.bool e2.b, .slice e2.A e2.n e2.c]) _ (fun w_ hS_ => rng_mid [e0, e1] [e2] [e3, e4, e5, e6, e7, e8] hS_) u24 (by first | rfl | assumption) T24i) (by assumption) (fun _ _ _ h => h) ?_
 (try simp only [Act.put, Lp0, Lp1, Lp2])
 refine tk (i := 13) rfl (by decide +kernel) (yieldsIf_load_mid (by rfl) _ _ (by rfl) (w.heap.size) (0) (by rfl) (cellsM [e0, e1, e2, e3, e4, e5, e6, e7, e8]) _ (fun w_ hS_ => hS_) RT54 (by first | rfl | assumption) hi.out) (by assumption) (fun _ _ _ h => h) ?_
 (try simp only [Act.put, Lp0, Lp1, Lp2])
 have qu : Below u.heap.size u u := Below.refl _ _
 refine br1 (i := 3) (by decide +kernel) rfl (fun K hK => ?_)
 go_simp
 (go_at_call 80; (with_reducible refine (HM0.out _ (bel_step HB BG)).mono ?_); rintro e v1 ⟨R0, d0, rfl, m0, hq_⟩; have qv1 : Below u.heap.size u v1 := bel_step BG hq_; have r0 := rng_below r0 qv1)
 (try go_wp2_with fail)
 refine hK.out _ _ ?_ (fun hHeld => ?_)
 ·exact r0
 clear hK K
 (try simp only [Act.put, Lp0, Lp1, Lp2])
 refine br1 (i := 4) (by decide +kernel) rfl (fun K hK => ?_)
 go_simp
 (go_at_call 53; (with_reducible refine (HX0.out _ (bel_step HB qv1) _ _ m0).mono ?_); rintro e v2 ⟨R1, d1, rfl, m1, hq_⟩; have qv2 : Below u.heap.size u v2 := bel_step BG hq_; have pv2 : Below v1.heap.size v1 v2 := bel_step (Below.refl _ _) hq_; have r0 := rng_below r0 pv2; skip)
 (try go_wp2_with fail)
 refine hK.out _ _ ?_ (fun hHeld => ?_)
 ·exact r0
 clear hK K
 (try simp only [Act.put, Lp0, Lp1, Lp2])
 refine br1 (i := 8) (by decide +kernel) rfl (fun K hK => ?_)
 go_simp
 (go_at_call 80; (with_reducible refine (HM1.out _ (bel_step HB qv2)).mono ?_); rintro e v3 ⟨R2, d2, rfl, m2, hq_⟩; have qv3 : Below u.heap.size u v3 := bel_step BG hq_; have pv3 : Below v2.heap.size v2 v3 := bel_step (Below.refl _ _) hq_; have r0 := rng_below r0 pv3; (have m1 := m1.below pv3))
 (try go_wp2_with fail)
 refine hK.out _ _ ?_ (fun hHeld => ?_)
 ·exact r0
 clear hK K
 (try simp only [Act.put, Lp0, Lp1, Lp2])
 refine br1 (i := 9) (by decide +kernel) rfl (fun K hK => ?_)
 go_simp
 (go_at_call 53; (with_reducible refine (HX1.out _ (bel_step HB qv3) _ _ m2).mono ?_); rintro e v4 ⟨R3, d3, rfl, m3, hq_⟩; have qv4 : Below u.heap.size u v4 := bel_step BG hq_; have pv4 : Below v3.heap.size v3 v4 := bel_step (Below.refl _ _) hq_; have r0 := rng_below r0 pv4; (have m1 := m1.below pv4))
 (try go_wp2_with fail)
 refine hK.out _ _ ?_ (fun hHeld => ?_)
 ·exact r0
 clear hK K
 (try simp only [Act.put, Lp0, Lp1, Lp2])
 refine br1 (i := 10) (by decide +kernel) rfl (fun K hK => ?_)
 go_simp
 (go_at_call 64; (with_reducible refine (HA1.out _ _ _ _ _ m1 m3).mono ?_); rintro e v5 ⟨R4, d4, rfl, m4, hq_⟩; have qv5 : Below u.heap.size u v5 := bel_step BG hq_; have pv5 : Below v4.heap.size v4 v5 := bel_step (Below.refl _ _) hq_; have r0 := rng_below r0 pv5; skip)
 (try go_wp2_with fail)
 refine hK.out _ _ ?_ (fun hHeld => ?_)
 ·exact r0
 clear hK K
 (try simp only [Act.put, Lp0, Lp1, Lp2])
 refine br1 (i := 14) (by decide +kernel) rfl (fun K hK => ?_)
 go_simp
 (go_at_call 80; (with_reducible refine (HM2.out _ (bel_step HB qv5)).mono ?_); rintro e v6 ⟨R5, d5, rfl, m5, hq_⟩; have qv6 : Below u.heap.size u v6 := bel_step BG hq_; have pv6 : Below v5.heap.size v5 v6 := bel_step (Below.refl _ _) hq_; have r0 := rng_below r0 pv6; (have m4 := m4.below pv6))
 (try go_wp2_with fail)
 refine hK.out _ _ ?_ (fun hHeld => ?_)
 ·exact r0
 clear hK K
 (try simp only [Act.put, Lp0, Lp1, Lp2])
 refine br1 (i := 15) (by decide +kernel) rfl (fun K hK => ?_)
 go_simp
 (go_at_call 53; (with_reducible refine (HX2.out _ (bel_step HB qv6) _ _ m5).mono ?_); rintro e v7 ⟨R6, d6, rfl, m6, hq_⟩; have qv7 : Below u.heap.size u v7 := bel_step BG hq_; have pv7 : Below v6.heap.size v6 v7 := bel_step (Below.refl _ _) hq_; have r0 := rng_below r0 pv7; (have m4 := m4.below pv7))
 (try go_wp2_with fail)
 refine hK.out _ _ ?_ (fun hHeld => ?_)
 ·exact r0
 clear hK K
 (try simp only [Act.put, Lp0, Lp1, Lp2])
 refine br1 (i := 16) (by decide +kernel) rfl (fun K hK => ?_)
 go_simp
 (go_at_call 64; (with_reducible refine (HA2.out _ _ _ _ _ m4 m6).mono ?_); rintro e v8 ⟨R7, d7, rfl, m7, hq_⟩; have qv8 : Below u.heap.size u v8 := bel_step BG hq_; have pv8 : Below v7.heap.size v7 v8 := bel_step (Below.refl _ _) hq_; have r0 := rng_below r0 pv8; skip)
 (try go_wp2_with fail)
 refine hK.out _ _ ?_ (fun hHeld => ?_)
 ·exact r0
 clear hK K
 (try simp only [Act.put, Lp0, Lp1, Lp2])
 have r1 := rng_below r1 qv8
 have s0 : v8.cell? ⟨w.heap.size + 1, 0, none⟩ = some (.bool false) := r1 0 _ rfl
 have s1 : v8.cell? ⟨w.heap.size + 1, 1, none⟩ = some (.slice none 0 0) := r1 1 _ rfl
 have zn1 := zn1.below qv8
 have f_zn1 := zn1.fr
 have HBx := bel_step HB qv8
 clear HM0 HM1 HM2 HX0 HX1 HX2 HA1 HA2
 refine br1 (i := 17) (by decide +kernel) rfl (fun K hK => ?_)
 go_simp
 skip
 (try go_wp2_with fail)
 refine hK.out _ _ ?_ (fun hHeld => ?_)
 ·exact rng_set (rng_set r0 (by omega)) (by omega)
 clear hK K
 (try simp only [Act.put, Lp0, Lp1, Lp2])
 refine wpAnyH_done (by kernel_rfl) ?_ _
 go_wp2
 refine bodyPost_ret (v := .agg #[.bool b, .slice R7 n d7]) ?_ rfl ?_
 ·simp [results, Tryz.results77, go_sem, s0, s1]
 ·obtain ⟨j1_, j2_⟩ := fin_i m7 HBx (by omega) s0 s1 (.bool b) (.slice R7 n d7)
  exact ⟨R7, d7, rfl, j1_, j2_⟩
end Go.Proofs.YtgnfobnkhjlbbaaGreat
/- Homographies, the reference: walk of product. Conditions: none. -/
namespace Go.Proofs.YtgnfobnkhjlbbaaGreat
open Go.RowKit Big
/-- the sum of the first products of an entry -/
def partZ (a b : List Int) (i : Nat) : Nat → Int
 | 0 => 0
 | k + 1 => partZ a b i k + a.getD (3 * (i / 3) + k) 0 * b.getD (3 * k + i % 3) 0
theorem partZ_all {a b : List Int} (ha : a.length = 9) (hb : b.length = 9) {i : Nat} (hi : i < 9) : (mulZ a b)[i]? = some (partZ a b i 3) := by
 obtain ⟨a0, a1, a2, a3, a4, a5, a6, a7, a8, rfl⟩ := nine a ha
 obtain ⟨b0, b1, b2, b3, b4, b5, b6, b7, b8, rfl⟩ := nine b hb
 match i, hi with
 | 0, _ => simp [partZ, mulZ]
 | 1, _ => simp [partZ, mulZ]
 | 2, _ => simp [partZ, mulZ]
 | 3, _ => simp [partZ, mulZ]
 | 4, _ => simp [partZ, mulZ]
 | 5, _ => simp [partZ, mulZ]
 | 6, _ => simp [partZ, mulZ]
 | 7, _ => simp [partZ, mulZ]
 | 8, _ => simp [partZ, mulZ]
theorem getD_bz {k : Nat} {a : List Int} (h : ∀ x ∈ a, Bz k x) (i : Nat) : Bz k (a.getD i 0) := by
 rw [List.getD_eq_getElem?_getD]
 cases h' : a[i]? with
 | none => exact Bz.zero
 | some x => exact h x (List.mem_of_getElem? h')
theorem partZ_bz {k l : Nat} {a b : List Int} (h : ∀ x ∈ a, Bz k x) (h' : ∀ x ∈ b, Bz l x) (i : Nat) : ∀ j, Bz (k + l + j) (partZ a b i j)
 | 0 => Bz.zero
 | j + 1 => ((partZ_bz h h' i j).add (((getD_bz h _).mul (getD_bz h' _)).mono (by omega)))
def prodC (a b : List Int) (i k : Nat) : List Int := (sofar (mulZ a b) i).set i (partZ a b i k)
theorem prodC_len {a b : List Int} (ha : a.length = 9) (hb : b.length = 9) {i : Nat} (hi : i < 9) (k : Nat) : (prodC a b i k).length = 9 := by
 unfold prodC
 rw [List.length_set, sofar_len _ _ (by rw [mulZ_len ha hb]; omega), mulZ_len ha hb]
theorem prodC_zero {a b : List Int} (ha : a.length = 9) (hb : b.length = 9) {i : Nat} (hi : i < 9) : prodC a b i 0 = sofar (mulZ a b) i := by
 have hl := mulZ_len ha hb
 unfold prodC sofar partZ
 rw [List.set_append_right _ _ (by simp; omega)]
 congr 1
 have e : i - ((mulZ a b).take i).length = 0 := by simp; omega
 rw [e, hl, show 9 - i = (8 - i) + 1 by omega, List.replicate_succ]
 rfl
theorem prodC_all {a b : List Int} (ha : a.length = 9) (hb : b.length = 9) {i : Nat} (hi : i < 9) : prodC a b i 3 = sofar (mulZ a b) (i + 1) := by
 unfold prodC
 exact sofar_set' (partZ_all ha hb hi)
theorem prodC_set {a b : List Int} (i k : Nat) (z : Int) : (prodC a b i k).set i z = (sofar (mulZ a b) i).set i z := by
 unfold prodC
 rw [List.set_set]
theorem enterR4z {w : World} {c0 c1 c2 c3 : List Value} {t0 t1 t2 t3 : TypeId} {P : World → Prop}
  (H : ∀ u, Below w.heap.size w u → u.rangeAt w.heap.size 0 c0 → u.rangeAt (w.heap.size + 1) 0 c1 → u.rangeAt (w.heap.size + 1 + 1) 0 c2 → u.rangeAt (w.heap.size + 1 + 1 + 1) 0 c3 → Zn u w.heap.size → Zn u (w.heap.size + 1) → Zn u (w.heap.size + 1 + 1) → Zn u (w.heap.size + 1 + 1 + 1) → Hid (u.heap.size = w.heap.size + 1 + 1 + 1 + 1) → P u) :
  P ((((w.alloc (.cells c0.toArray t0)).alloc (.cells c1.toArray t1)).alloc (.cells c2.toArray t2)).alloc (.cells c3.toArray t3)) := by
 refine enterR3 (P := fun v => P (v.alloc (.cells c3.toArray t3))) fun v hb r0 r1 r2 z0 z1 z2 hs => ?_
 have h3 := rng_alloc (w := v) (cs := c3) (t := t3)
 have z3 := Zn.new_ (w := v) (cs := c3.toArray) (t := t3)
 rw [hs.out] at h3 z3
 have hv : Below v.heap.size v (v.alloc (.cells c3.toArray t3)) := (Below.refl _ _).alloc (Nat.le_refl _) _
 exact H _ (bel_step hb hv) (rng_below r0 hv) (rng_below r1 hv) (rng_below r2 hv) h3 z0.alloc_ z1.alloc_ z2.alloc_ z3 (by unfold Hid; simp [hs.out])
set_option maxRecDepth 100000 in
set_option maxHeartbeats 8000000 in
theorem HRproduct_g (la lb : List ZE) (hla : la.length = 9) (hlb : lb.length = 9) {w : World} (oa : ∀ e ∈ la, e.ok w) (ob : ∀ e ∈ lb, e.ok w) {k m : Nat} (hk : k + m + 4 ≤ 16384) (ba : ∀ e ∈ la, Bz k e.z) (bb : ∀ e ∈ lb, Bz m e.z) :
  Calls Tryz.prog 40 #[.agg (cellsM la).toArray, .agg (cellsM lb).toArray] w (RetM w (mulZ (la.map (·.z)) (lb.map (·.z)))) := by
 have hA : (la.map (·.z)).length = 9 := by simpa using hla
 have hB : (lb.map (·.z)).length = 9 := by simpa using hlb
 have HOa := hid fun (W : World) (h : Below w.heap.size w W) e (he : e ∈ la) => (oa e he).below h
 have HOb := hid fun (W : World) (h : Below w.heap.size w W) e (he : e ∈ lb) => (ob e he).below h
 have hpb := hid (partZ_bz (a := la.map (·.z)) (b := lb.map (·.z)) (k := k) (l := m) (by intro x hx; obtain ⟨e, he, rfl⟩ := List.mem_map.1 hx; exact ba e he) (by intro x hx; obtain ⟨e, he, rfl⟩ := List.mem_map.1 hx; exact bb e he))
 have HGa := hid fun (j : Nat) (h : j < la.length) => (show (la.map (·.z)).getD j 0 = la[j].z from by rw [List.getD_eq_getElem?_getD, List.getElem?_map, List.getElem?_eq_getElem h]; rfl)
 have HGb := hid fun (j : Nat) (h : j < lb.length) => (show (lb.map (·.z)).getD j 0 = lb[j].z from by rw [List.getD_eq_getElem?_getD, List.getElem?_map, List.getElem?_eq_getElem h]; rfl)
 have hml := mulZ_len hA hB
 clear oa ob
 obtain ⟨d24, u24, row24⟩ := T24u
 generalize la.map (·.z) = ZA at *
 generalize lb.map (·.z) = ZB at *
 go_enter Tryz.func40, Tryz.ntmps40
 go_upto_region 2 with fail
 refine enterR4z (P := fun u => Code.wp _ _ _ _ u) ?_
 intro u HB r0 r1 r2 r3 zn0 zn1 zn2 zn3 hsz
 have hF : Fil w [(w.heap.size, cellsM la), (w.heap.size + 1, cellsM lb), (w.heap.size + 1 + 1, cellsM zeros9)] (w.heap.size + 1 + 1 + 1) (sofar (mulZ ZA ZB) 0) u := ⟨HB, by
  intro p hp
  simp only [List.mem_cons, List.not_mem_nil, or_false] at hp
  rcases hp with rfl | rfl | rfl
  ·exact ⟨r0, zn0, by dsimp only; omega⟩
  ·exact ⟨r1, zn1, by dsimp only; omega⟩
  ·exact ⟨r2, zn2, by dsimp only; omega⟩, zn3, by omega, zeros9, r3, fun e he => by rw [List.eq_of_mem_replicate he]; exact ZE.zero_ok _, by rw [sofar_none, hml]; rfl⟩
 clear r0 r1 r2 r3 zn0 zn1 zn2 zn3 hsz HB
 go_wp2
 go_loopw [6] (fun s6 wr => ∃ i : Nat, i ≤ 9 ∧ s6 = .int .i64 i ∧ Fil w [(w.heap.size, cellsM la), (w.heap.size + 1, cellsM lb), (w.heap.size + 1 + 1, cellsM zeros9)] (w.heap.size + 1 + 1 + 1) (sofar (mulZ ZA ZB) i) wr) (fun s6 _ => 9 - (intOf s6).toNat)
 case atStart => exact ⟨0, by omega, rfl, hF⟩
 case round =>
  obtain ⟨i, hi, rfl, hS⟩ := hrel
  clear hF
  by_cases h9 : i < 9
  ·have h9i : (i : Int) < 9 := by omega
   rw [← prodC_zero hA hB h9] at hS
   go_wp2
   go_loopw [7] (fun s7 wr => ∃ q : Nat, q ≤ 3 ∧ s7 = .int .i64 q ∧ Fil w [(w.heap.size, cellsM la), (w.heap.size + 1, cellsM lb), (w.heap.size + 1 + 1, cellsM zeros9)] (w.heap.size + 1 + 1 + 1) (prodC ZA ZB i q) wr) (fun s7 _ => 3 - (intOf s7).toNat)
   case atStart => exact ⟨0, by omega, rfl, hS⟩
   case round =>
    obtain ⟨q, hq, rfl, hS⟩ := hrel
    by_cases h3 : q < 3
    ·have h3i : (q : Int) < 3 := by omega
     have ha3 : 3 * (i / 3) + q < la.length := by omega
     have hb3 : 3 * q + i % 3 < lb.length := by omega
     have hsum : partZ ZA ZB i (q + 1) = partZ ZA ZB i q + la[3 * (i / 3) + q].z * lb[3 * q + i % 3].z := by
      rw [← HGa.out _ ha3, ← HGb.out _ hb3]; rfl
     obtain ⟨ka, za, na_⟩ := hS.k (w.heap.size, cellsM la) (by simp)
     obtain ⟨kb, zb, nb_⟩ := hS.k (w.heap.size + 1, cellsM lb) (by simp)
     dsimp only at ka kb
     obtain ⟨a0, a1⟩ := rng_cell ka ha3
     obtain ⟨b0, b1⟩ := rng_cell kb hb3
     have xa := HOa.out wr hS.b _ (List.getElem_mem ha3)
     have xb := HOb.out wr hS.b _ (List.getElem_mem hb3)
     have ya := ba _ (List.getElem_mem ha3)
     have yb := bb _ (List.getElem_mem hb3)
     obtain ⟨td, htz, hto, c0, c1⟩ := hS.cell (j := i) (by rw [prodC_len hA hB h9]; exact h9)
     have htz : td.z = partZ ZA ZB i q := by rw [htz]; simp [prodC]
     have hp0 := hpb.out i q
     have hp1 := hpb.out i (q + 1)
     rw [hsum] at hp1
     obtain ⟨ja, hja⟩ : ∃ ja, 3 * (i / 3) + q = ja := ⟨_, rfl⟩
     obtain ⟨jb, hjb⟩ : ∃ jb, 3 * q + i % 3 = jb := ⟨_, rfl⟩
     obtain ⟨r, hr⟩ : ∃ r, i % 3 = r := ⟨_, rfl⟩
     have e3 : (i : Int).tmod 3 = (r : Int) := by rw [Int.tmod_eq_emod_of_nonneg (by omega)]; omega
     have e4 : IntKind.i64.wrap ((i : Int) - (r : Int)) = (i : Int) - (r : Int) := by rw [IntKind.wrap_i64]; omega
     have e5 : IntKind.i64.wrap ((i : Int) - (r : Int) + (q : Int)) = (ja : Int) := by rw [IntKind.wrap_i64]; omega
     have e6 : IntKind.i64.wrap (3 * (q : Int)) = 3 * (q : Int) := by rw [IntKind.wrap_i64]; omega
     have e7 : IntKind.i64.wrap (3 * (q : Int) + (r : Int)) = (jb : Int) := by rw [IntKind.wrap_i64]; omega
     have e8 : (ja : Int) < 9 := by omega
     have e9 : (jb : Int) < 9 := by omega
     have e10 : IntKind.i64.wrap (r : Int) = (r : Int) := by rw [IntKind.wrap_i64]; omega
     simp only [hja, hjb] at *
     generalize la[ja] = ea at *
     generalize lb[jb] = eb_ at *
     rw [← htz] at hsum hp0 hp1
     obtain ⟨mb, mn, mL, MI⟩ := iz (ea.z * eb_.z)
     obtain ⟨sb, sn, sL, SI⟩ := iz (td.z + ea.z * eb_.z)
     have HM := hid fun (W : World) (h : Below wr.heap.size wr W) => HRmul_g (w := W) xa.i xb.i MI.out (xa.m.below h) (xb.m.below h) (ya.ft (by omega)) (yb.ft (by omega)) ((ya.mul yb).ft (by omega)) rfl
     have HA := hid fun (W : World) (h : Below wr.heap.size wr W) (R : Option Addr) (c : Nat) (m1 : Mg W R c mL) => HRadd_g (w := W) hto.i MI.out SI.out (hto.m.below h) m1 (hp0.ft (by omega)) ((ya.mul yb).ft (by omega)) (hp1.ft (by omega)) rfl
     have HN : Hid ((prodC ZA ZB i q).set i (td.z + ea.z * eb_.z) = prodC ZA ZB i (q + 1)) := by
      unfold Hid
      rw [prodC_set, ← hsum]; rfl
     have HS := hid hS
     have fz := hS.zm.fr
     have lt0 := cell_lt a0
     have lt1 := cell_lt b0
     have lt2 := cell_lt c0
     clear hS ka kb xa xb ya yb hto htz hp0 hp1 hsum hja hjb hr ba bb HGa HGb za zb na_ nb_
     obtain ⟨az, ab, an, axs, aA, ac⟩ := ea
     obtain ⟨bz, bb, bn, bxs, bA, bc⟩ := eb_
     obtain ⟨dz, db, dn, dxs, dA, dc⟩ := td
     dsimp only at *
     go_wp2_with fail
     have HB := Below.refl wr.heap.size wr
     refine Ords.start (x := 22) (S := fun w' => (w'.cell? ⟨w.heap.size + 1 + 1 + 1, i * 2, none⟩ = some (.bool db) ∧ w'.cell? ⟨w.heap.size + 1 + 1 + 1, i * 2 + 1, none⟩ = some (.slice dA dn dc)) ∧ (w'.cell? ⟨w.heap.size, ja * 2, none⟩ = some (.bool ab) ∧ w'.cell? ⟨w.heap.size, ja * 2 + 1, none⟩ = some (.slice aA an ac)) ∧ (w'.cell? ⟨w.heap.size + 1, jb * 2, none⟩ = some (.bool bb) ∧ w'.cell? ⟨w.heap.size + 1, jb * 2 + 1, none⟩ = some (.slice bA bn bc))) (by kernel_rfl) ?_ (fun hHeld => ?_)
     ·exact ⟨⟨c0, c1⟩, ⟨a0, a1⟩, ⟨b0, b1⟩⟩
     refine' tkO (i := 0) rfl (by decide +kernel) (Or.inl ⟨by rfl, ?_⟩) (by assumption) (fun _ _ _ h => h) ?_
     rotate_left 1
     ·(intro w_ hSw_; (try dsimp only at hSw_); go_simp; (try with_reducible rfl))
     (try simp only [Act.put, Lp0, Lp1, Lp2])
     refine' tkO (i := 1) rfl (by decide +kernel) (Or.inl ⟨by rfl, ?_⟩) (by assumption) (fun _ _ _ h => h) ?_
     rotate_left 1
     ·(intro w_ hSw_; (try dsimp only at hSw_); go_simp; (try with_reducible rfl))
     (try simp only [Act.put, Lp0, Lp1, Lp2])
     refine' tkO (i := 2) rfl (by decide +kernel) (Or.inl ⟨by rfl, ?_⟩) (by assumption) (fun _ _ _ h => h) ?_
     rotate_left 1
     ·(intro w_ hSw_; (try dsimp only at hSw_); go_simp; (try with_reducible rfl))
     (try simp only [Act.put, Lp0, Lp1, Lp2])
     refine' tkO (i := 3) rfl (by decide +kernel) (Or.inl ⟨by rfl, ?_⟩) (by assumption) (fun _ _ _ h => h) ?_
     rotate_left 1
     ·(intro w_ hSw_; (try dsimp only at hSw_); go_simp; (try with_reducible rfl))
     (try simp only [Act.put, Lp0, Lp1, Lp2])
     refine' tkO (i := 4) rfl (by decide +kernel) (Or.inl ⟨by rfl, ?_⟩) (by assumption) (fun _ _ _ h => h) ?_
     rotate_left 1
     ·(intro w_ hSw_; (try dsimp only at hSw_); go_simp; (try with_reducible rfl))
     (try simp only [Act.put, Lp0, Lp1, Lp2])
     refine' tkO (i := 5) rfl (by decide +kernel) (Or.inl ⟨by rfl, ?_⟩) (by assumption) (fun _ _ _ h => h) ?_
     rotate_left 1
     ·(intro w_ hSw_; (try dsimp only at hSw_); go_simp; (try with_reducible rfl))
     (try simp only [Act.put, Lp0, Lp1, Lp2])
     refine' tkO (i := 6) rfl (by decide +kernel) (Or.inl ⟨by rfl, ?_⟩) (by assumption) (fun _ _ _ h => h) ?_
     rotate_left 1
     ·(intro w_ hSw_; (try dsimp only at hSw_); go_simp; (try with_reducible rfl))
     (try simp only [Act.put, Lp0, Lp1, Lp2])
     refine' tkO (i := 7) rfl (by decide +kernel) (Or.inl ⟨by rfl, ?_⟩) (by assumption) (fun _ _ _ h => h) ?_
     rotate_left 1
     ·(intro w_ hSw_; (try dsimp only at hSw_); go_simp; (try with_reducible rfl))
     (try simp only [Act.put, Lp0, Lp1, Lp2])
     refine' tkO (i := 8) rfl (by decide +kernel) (Or.inl ⟨by rfl, ?_⟩) (by assumption) (fun _ _ _ h => h) ?_
     rotate_left 1
     ·(intro w_ hSw_; (try dsimp only at hSw_); go_simp; (try with_reducible rfl))
     (try simp only [Act.put, Lp0, Lp1, Lp2])
     refine' tkO (i := 9) rfl (by decide +kernel) (Or.inl ⟨by rfl, ?_⟩) (by assumption) (fun _ _ _ h => h) ?_
     rotate_left 1
     ·(intro w_ hSw_; (try dsimp only at hSw_); go_simp; (try with_reducible rfl))
     (try simp only [Act.put, Lp0, Lp1, Lp2])
     refine' tkO (i := 10) rfl (by decide +kernel) (Or.inl ⟨by rfl, ?_⟩) (by assumption) (fun _ _ _ h => h) ?_
     rotate_left 1
     ·(intro w_ hSw_; (try dsimp only at hSw_); go_simp; (try with_reducible rfl))
     (try simp only [Act.put, Lp0, Lp1, Lp2])
     refine' tkO (i := 11) rfl (by decide +kernel) (Or.inl ⟨by rfl, ?_⟩) (by assumption) (fun _ _ _ h => h) ?_
     rotate_left 1
     ·(intro w_ hSw_; (try dsimp only at hSw_); go_simp; (try with_reducible rfl))
     (try simp only [Act.put, Lp0, Lp1, Lp2])
     refine' tkO (i := 12) rfl (by decide +kernel) (Or.inl ⟨by rfl, ?_⟩) (by assumption) (fun _ _ _ h => h) ?_
     rotate_left 1
     ·(intro w_ hSw_; (try dsimp only at hSw_); go_simp; (try with_reducible rfl))
     (try simp only [Act.put, Lp0, Lp1, Lp2])
     refine' tkO (i := 13) rfl (by decide +kernel) (Or.inl ⟨by rfl, ?_⟩) (by assumption) (fun _ _ _ h => h) ?_
     rotate_left 1
     ·(intro w_ hSw_; (try dsimp only at hSw_); go_simp; (try with_reducible rfl))
     (try simp only [Act.put, Lp0, Lp1, Lp2])
     refine' tkO (i := 14) rfl (by decide +kernel) (Or.inl ⟨by rfl, ?_⟩) (by assumption) (fun _ _ _ h => h) ?_
     rotate_left 1
     ·(intro w_ hSw_; (try dsimp only at hSw_); go_simp; (try with_reducible rfl))
     (try simp only [Act.put, Lp0, Lp1, Lp2])
     refine' tkO (i := 15) rfl (by decide +kernel) (Or.inl ⟨by rfl, ?_⟩) (by assumption) (fun _ _ _ h => h) ?_
     rotate_left 1
     ·(intro w_ hSw_; (try dsimp only at hSw_); go_simp; (try with_reducible rfl))
     (try simp only [Act.put, Lp0, Lp1, Lp2])
     refine' tkO (i := 16) rfl (by decide +kernel) (Or.inl ⟨by rfl, ?_⟩) (by assumption) (fun _ _ _ h => h) ?_
     rotate_left 1
     ·(intro w_ hSw_; (try dsimp only at hSw_); go_simp; (try with_reducible rfl))
     (try simp only [Act.put, Lp0, Lp1, Lp2])
     refine' tkO (i := 17) rfl (by decide +kernel) (Or.inl ⟨by rfl, ?_⟩) (by assumption) (fun _ _ _ h => h) ?_
     rotate_left 1
     ·(intro w_ hSw_; (try dsimp only at hSw_); go_simp; (try with_reducible rfl))
     (try simp only [Act.put, Lp0, Lp1, Lp2])
     refine' tkO (i := 18) rfl (by decide +kernel) (Or.inl ⟨by rfl, ?_⟩) (by assumption) (fun _ _ _ h => h) ?_
     rotate_left 1
     ·(intro w_ hSw_; (try dsimp only at hSw_); go_simp; (try with_reducible rfl))
     (try simp only [Act.put, Lp0, Lp1, Lp2])
     refine' Ords.step (i := 19) (by kernel_rfl) (by simp only [List.getElem?_toArray, List.getElem?_cons_succ, List.getElem?_cons_zero]; rfl) (fun K hK => ?_)
     go_simp
     (go_at_call 53; (with_reducible refine (HM.out _ (bel_step HB BG)).mono ?_); rintro e v1 ⟨R1, d1, rfl, m1, hq1⟩; have qv1 : Below wr.heap.size wr v1 := bel_step BG hq1)
     (try go_wp2_with fail)
     refine hK.out _ _ ?_ (fun hHeld => ?_)
     ·(first | ((try dsimp only); repeat' (first | with_reducible assumption | apply And.intro | (with_reducible refine keep_alloc ?_) | (with_reducible refine keep_drew ?_) | (with_reducible refine keep_set (by omega) ?_) | (with_reducible refine keep_sets (by omega) ?_) | (with_reducible refine keep_cell (W := wr) ?_ ?_) | fail)))
     clear hK K
     (try simp only [Act.put, Lp0, Lp1, Lp2])
     refine' Ords.step (i := 20) (by kernel_rfl) (by simp only [List.getElem?_toArray, List.getElem?_cons_succ, List.getElem?_cons_zero]; rfl) (fun K hK => ?_)
     go_simp
     (go_at_call 64; (with_reducible refine (HA.out _ (bel_step HB BG) _ _ m1).mono ?_); rintro e v2 ⟨R2, d2, rfl, m2, hq2⟩; have qv2 : Below wr.heap.size wr v2 := bel_step qv1 hq2; have c0 := keep_cell qv2 c0; have c1 := keep_cell qv2 c1; have fz := (HS.out.below qv2).zm.fr)
     (try go_wp2_with fail)
     refine hK.out _ _ ?_ (fun hHeld => ?_)
     ·(first | ((try dsimp only); repeat' (first | with_reducible assumption | apply And.intro | (with_reducible refine keep_alloc ?_) | (with_reducible refine keep_drew ?_) | (with_reducible refine keep_set (by omega) ?_) | (with_reducible refine keep_sets (by omega) ?_) | (with_reducible refine keep_cell (W := wr) ?_ ?_) | fail)))
     clear hK K
     (try simp only [Act.put, Lp0, Lp1, Lp2])
     refine' tkO (i := 21) rfl (by decide +kernel) (Or.inl ⟨by rfl, ?_⟩) (by assumption) (fun _ _ _ h => h) ?_
     rotate_left 1
     ·(intro w_ hSw_; (try dsimp only at hSw_); go_simp; (try with_reducible rfl))
     (try simp only [Act.put, Lp0, Lp1, Lp2])
     refine' Ords.last (by kernel_rfl) (by simp only [List.getElem?_toArray, List.getElem?_cons_succ, List.getElem?_cons_zero]; rfl) (by kernel_rfl) (fun K hK => ?_)
     go_simp
     (try go_wp2_with fail)
     refine hK.out _ _ ?_
     clear hK K
     (try simp only [Act.put, Lp0, Lp1, Lp2])
     have hF5 := (HS.out.below qv2).set (j := i) (by rw [prodC_len hA hB h9]; exact h9) SI.out m2
     rw [HN.out] at hF5
     have HF5 := hid hF5
     clear hF5
     go_wp2
     go_roundw
     case rel => exact ⟨q + 1, by omega, by go_num, HF5.out⟩
     case measure => simp [intOf]; omega
    ·obtain rfl : q = 3 := by omega
     rw [prodC_all hA hB h9] at hS
     go_wp2
     go_roundw
     case rel => exact ⟨i + 1, by omega, by go_num, hS⟩
     case measure => simp [intOf]; omega
  ·obtain rfl : i = 9 := by omega
   have hS' : Fil w [(w.heap.size, cellsM la), (w.heap.size + 1, cellsM lb), (w.heap.size + 1 + 1, cellsM zeros9)] (w.heap.size + 1 + 1 + 1) (mulZ ZA ZB) wr := by
    have := hS
    rwa [show 9 = (mulZ ZA ZB).length from hml.symm, sofar_all] at this
   obtain ⟨lm, e2, e3, e4⟩ := hS'.ex
   obtain ⟨q1, z1, _⟩ := hS'.k (w.heap.size + 1 + 1, cellsM zeros9) (by simp)
   dsimp only at q1 z1
   have e1 : lm.length = 9 := by rw [← List.length_map (·.z), e4, hml]
   have hi9 := hid (show (Tryz.prog.info? 54).map (·.size) = some (cellsM lm).length by rw [cellsM_len, e1]; kernel_rfl)
   have hi9' := hid (show (Tryz.prog.info? 54).map (·.size) = some (cellsM lm).toArray.size by rw [List.size_toArray, cellsM_len, e1]; kernel_rfl)
   obtain ⟨G1, G2, G3, G4⟩ := fin_N (w := w) (l := lm) (cs := zeros9) RT54 rfl hi9.out hS'.b (by omega) q1 z1 (by rw [e1]; rfl) e3
   have HF := hid (And.intro e4 (And.intro G3 G4))
   have ht := rng_there q1 z1
   rw [show (cellsM zeros9).length = (cellsM lm).toArray.size by rw [List.size_toArray, cellsM_len, cellsM_len, e1]; rfl] at ht
   have ho := all_oneCell_toArray (cellsM_one lm)
   clear e1 e3 e4 G1 G3 G4 hS hS' q1 z1 hml
   go_wp2_with (first | refine wpList_load_mid (by rfl) _ _ (by rfl) (w.heap.size + 1 + 1 + 1) 0 (by rfl) (cellsM lm) _ e2 RT54 (by rfl) hi9.out ?_ | refine wpList_store_mid (by rfl) _ _ _ (by rfl) (w.heap.size + 1 + 1) 0 (cellsM lm).toArray (by rfl) (by rfl) ht hi9'.out ho ?_ | fail)
   refine bodyPost_ret (v := .agg (cellsM lm).toArray) ?_ rfl ?_
   ·simp [results, Tryz.results40, Sem.run_bind, asAddr, Act.put, G2]
   ·exact ⟨lm, rfl, HF.out.1, HF.out.2.2, HF.out.2.1⟩
end Go.Proofs.YtgnfobnkhjlbbaaGreat
/- Homographies, the reference: walk of pack. Conditions: none. -/
namespace Go.Proofs.YtgnfobnkhjlbbaaGreat
open Go.RowKit Big
/-- a transformation of which some entries are filled -/
def hsof (N : List Int) (j : Nat) : List Int := homZ (N.take j) ++ List.replicate (18 - 2 * j) 0
theorem hsof_len {N : List Int} (h : N.length = 9) {j : Nat} (hj : j ≤ 9) : (hsof N j).length = 18 := by
 unfold hsof
 rw [List.length_append, homZ_len, List.length_take, List.length_replicate]
 omega
theorem hsof_next {N : List Int} (h : N.length = 9) {j : Nat} (hj : j < N.length) : ((hsof N j).set (2 * j) N[j]).set (2 * j + 1) 1 = hsof N (j + 1) := by
 unfold hsof
 have e1 : (homZ (N.take j)).length = 2 * j := by rw [homZ_len]; simp; omega
 have e2 := set2_replicate (homZ (N.take j)) N[j] 1 (18 - 2 * (j + 1))
 rw [e1, show 18 - 2 * (j + 1) + 2 = 18 - 2 * j by omega] at e2
 rw [e2, List.take_succ_eq_append_getElem hj, homZ_snoc]
theorem hsof_all {N : List Int} (h : N.length = 9) : hsof N 9 = homZ N := by
 unfold hsof
 rw [List.take_of_length_le (by omega)]
 simp
/-- a block made and filled with what it holds -/
theorem enterS {v : World} {cs : List Value} {t : TypeId} {P : World → Prop} (H : ∀ U, Below v.heap.size v U → U.rangeAt v.heap.size 0 cs → Zn U v.heap.size → P U) : P ((v.alloc (.cells cs.toArray t)).setCells v.heap.size 0 cs) :=
 H _ (below_sets (Nat.le_refl _) _ _ _ ((Below.refl _ _).alloc (Nat.le_refl _) _)) (rng_same rng_alloc Zn.new_ rfl) (Zn.sets _ _ _ _ Zn.new_)
set_option maxRecDepth 100000 in
set_option maxHeartbeats 8000000 in
theorem HRpack_g (l : List ZE) (hl : l.length = 9) {w : World} (hok : ∀ e ∈ l, e.ok w) {k : Nat} (hk : k ≤ 16384) (hb : ∀ e ∈ l, Bz k e.z) :
  Calls Tryz.prog 39 #[.agg (cellsM l).toArray] w (RetHE w (resZ (l.map (·.z)))) := by
 have hi := hid (show (Tryz.prog.info? 54).map (·.size) = some (cellsM l).length by rw [cellsM_len, hl]; kernel_rfl)
 have HA := hid fun (w1 : World) (h : Below w.heap.size w w1) => HRreduce_g l hl (w := w1) (fun e he => (hok e he).below h) hk hb
 clear hok hb
 obtain ⟨d32, u32, row32⟩ := T32u
 obtain ⟨Ib, In, IL, I1⟩ := iz 1
 have HFI := hid fun (w1 : World) => RFromInt_g (w := w1) I1.out (by omega) (by omega)
 go_enter Tryz.func39, Tryz.ntmps39
 go_upto_region 1 with fail
 refine enterR2 (P := fun u => Code.wp _ _ _ _ u) ?_
 intro u HB r0 r1 zn0 zn1 hsz
 clear hsz
 have r1 : u.rangeAt (w.heap.size + 1) 0 (cellsM zeros18) := r1
 go_wp2_with (first | refine wpList_load_mid (by rfl) _ _ (by rfl) w.heap.size 0 (by rfl) (cellsM l) _ r0 RT54 (by rfl) hi.out ?_ | fail)
 refine (HA.out _ HB).mono ?_
 rintro e w1 ⟨l1, rfl, hz, hok1, h1⟩
 have hl1 : l1.length = 9 := by rw [← List.length_map (·.z), hz, redZ_len]; simpa using hl
 have F1 := store_newN (P := Tryz.prog) (w := w1) (l := l1) (zs := cellsM zeros9) 54 (by rw [cellsM_len, hl1]; rfl) (by kernel_rfl)
 simp only [zeros9, List.replicate, cellsM, ZE.cells, ZE.zero, List.cons_append, List.nil_append] at F1
 have h18 : (cellsM l1).length = 18 := by rw [cellsM_len, hl1]
 have HB1 := bel_step HB h1
 have r1 := rng_below r1 h1
 have zn1 := zn1.below h1
 go_upto_region 2 with fail
 refine enterR (P := fun u => Code.wp _ _ _ _ u) ?_
 intro v hv p0 pz hsz
 have HB := bel_step HB1 hv
 have r1 := rng_below r1 hv
 have zn1 := zn1.below hv
 clear hsz F1 HA r0 zn0
 have ht2 : (v.alloc (.cells (cellsM zeros18).toArray 32)).there v.heap.size 0 (cellsM zeros18).toArray.size := by
  have := rng_there (rng_alloc (w := v) (cs := cellsM zeros18) (t := 32)) Zn.new_
  simpa using this
 have ho := all_oneCell_toArray (cellsM_one zeros18)
 go_wp2_with (first | refine wpList_store_mid (by rfl) _ _ _ (by rfl) v.heap.size 0 (cellsM zeros18).toArray (by rfl) (by rfl) ht2 T32i ho ?_ | fail)
 refine enterS (P := fun u => Code.wp _ _ _ _ u) ?_
 intro U hU q5 z5
 have hU0 := hid hU
 have r1 := rng_below r1 hU
 have p0 := rng_below p0 hU
 have pz := pz.below hU
 have zn1 := zn1.below hU
 have HB2 := bel_step HB hU
 have hN9 : (redZ (l.map (·.z))).length = 9 := by rw [redZ_len]; simpa using hl
 have hlt1 : w.heap.size + 1 < w1.heap.size := Nat.lt_of_le_of_lt (Nat.le_refl _) (by have := (Zn.lt ‹Zn w1 (w.heap.size + 1)›); omega)
 have hlt2 : w1.heap.size < v.heap.size := (Zn.lt ‹Zn v w1.heap.size›)
 have hF : Fil w [(w.heap.size + 1, cellsM zeros18), (w1.heap.size, cellsM l1)] v.heap.size (hsof (redZ (l.map (·.z))) 0) U := ⟨HB2, by
  intro p hp
  simp only [List.mem_cons, List.not_mem_nil, or_false] at hp
  rcases hp with rfl | rfl
  ·exact ⟨r1, zn1, by dsimp only; omega⟩
  ·exact ⟨p0, pz, by dsimp only; omega⟩, z5, HB.size, zeros18, q5, fun e he => by rw [List.eq_of_mem_replicate he]; exact ZE.zero_ok _, by simp [hsof, homZ]; rfl⟩
 have hRZ : Hid (resZ (l.map (·.z)) = if le40 (redZ (l.map (·.z))) then (homZ (redZ (l.map (·.z))), 0) else (List.replicate 18 0, 4)) := rfl
 have hle := le40_ok hok1
 rw [hz] at hle
 have HO1 := hid fun (W : World) (h : Below v.heap.size v W) e (he : e ∈ l1) => ((hok1 e he).below hv).below h
 generalize redZ (l.map (·.z)) = N at *
 clear r1 p0 pz zn1 HB HB2 hU q5 z5 ht2 h1 hv HB1 hok1 h18
 obtain ⟨g1, hg1⟩ : ∃ g1, g1 = w1.heap.size := ⟨_, rfl⟩
 obtain ⟨g5, hg5⟩ : ∃ g5, g5 = v.heap.size := ⟨_, rfl⟩
 rw [← hg1, ← hg5] at hF
 rw [← hg1, ← hg5]
 have hU5 := hid (show v.heap.size ≤ g5 from Nat.le_of_eq hg5.symm)
 have hbU : Below v.heap.size v U := hU0.out
 clear hg1 hg5 hU0
 go_wp2
 go_loopw [6] (fun s6 wr => ∃ j : Nat, j ≤ 9 ∧ s6 = .int .i64 j ∧ Fil w [(w.heap.size + 1, cellsM zeros18), (g1, cellsM l1)] g5 (hsof N j) wr ∧ Below v.heap.size v wr ∧ Hid (∀ i (h : i < l1.length), i < j → l1[i].n ≤ 40)) (fun s6 _ => 9 - (intOf s6).toNat)
 case atStart => exact ⟨0, by omega, rfl, hF, hbU, fun i _ h => by omega⟩
 case round =>
  obtain ⟨j, hj, rfl, hS, hbv, hp⟩ := hrel
  clear hF hbU
  by_cases h9 : j < 9
  ·have h9i : (j : Int) < 9 := by omega
   have hj1 : j < l1.length := by omega
   have hjN : j < N.length := by omega
   obtain ⟨k1, z1, n1⟩ := hS.k (g1, cellsM l1) (by simp)
   dsimp only at k1
   obtain ⟨c0, c1⟩ := rng_cell k1 hj1
   have ox := HO1.out wr hbv _ (List.getElem_mem hj1)
   have hzx : l1[j].z = N[j] := by
    have := congrArg (fun l => l[j]?) hz
    simpa [List.getElem?_map, List.getElem?_eq_getElem hj1, List.getElem?_eq_getElem hjN] using this
   have hbad : ¬ l1[j].n ≤ 40 → le40 N = false := fun h => by
    rw [← hle, decide_eq_false_iff_not]
    exact fun h' => h (h' _ (List.getElem_mem hj1))
   have hgood : l1[j].n ≤ 40 → ∀ i (h : i < l1.length), i < j + 1 → l1[i].n ≤ 40 := fun h i hi hi2 => by
    rcases Nat.lt_or_ge i j with h4 | h4
    ·exact hp.out i hi h4
    ·have e : i = j := by omega
     subst e; exact h
   generalize l1[j] = e at *
   clear hp k1
   by_cases h40 : e.n ≤ 40
   ·have hng : ¬ (40 : Int) < (e.n : Int) := by omega
    have HG := hid (hgood h40)
    have hn := hsof_next hN9 hjN
    rw [← hzx] at hn
    have HN := hid hn
    have hlen := hsof_len hN9 (j := j) (by omega)
    obtain ⟨d0, D0, m0, y0, d1, D1, m1, y1, t0, t1, t2, t3⟩ := hS.cellF (j := j) (by omega)
    have HS := hid hS
    have HX := hid ox
    have lt0 := cell_lt c0
    have lt1 := cell_lt t0
    have hne : g1 ≠ g5 := n1
    have HB := Below.refl wr.heap.size wr
    clear hbad hgood h40 hn ox hzx hS z1 n1 hle hRZ
    obtain ⟨ez, eb, en, exs, eA, ec⟩ := e
    dsimp only at *
    go_upto_region 8 with fail
    refine wp_region_held_drew (S := fun w' => w'.cell? ⟨g1, j * 2, none⟩ = some (.bool eb) ∧ w'.cell? ⟨g1, j * 2 + 1, none⟩ = some (.slice eA en ec)) (by kernel_rfl) ?_ (fun hHeld => ?_)
    ·exact ⟨c0, c1⟩
    refine' tk (i := 0) rfl (by decide +kernel) (Or.inl ⟨by rfl, ?_⟩) (by assumption) (fun _ _ _ h => h) ?_
    rotate_left 1
    ·(intro w_ hSw_; (try dsimp only at hSw_); go_simp; (try with_reducible rfl))
    (try simp only [Act.put, Lp0, Lp1, Lp2])
    refine' tk (i := 1) rfl (by decide +kernel) (Or.inl ⟨by rfl, ?_⟩) (by assumption) (fun _ _ _ h => h) ?_
    rotate_left 1
    ·(intro w_ hSw_; (try dsimp only at hSw_); go_simp; (try with_reducible rfl))
    (try simp only [Act.put, Lp0, Lp1, Lp2])
    refine' tk (i := 2) rfl (by decide +kernel) (Or.inl ⟨by rfl, ?_⟩) (by assumption) (fun _ _ _ h => h) ?_
    rotate_left 1
    ·(intro w_ hSw_; (try dsimp only at hSw_); go_simp; (try with_reducible rfl))
    (try simp only [Act.put, Lp0, Lp1, Lp2])
    refine' tk (i := 3) rfl (by decide +kernel) (Or.inl ⟨by rfl, ?_⟩) (by assumption) (fun _ _ _ h => h) ?_
    rotate_left 1
    ·(intro w_ hSw_; (try dsimp only at hSw_); go_simp; (try with_reducible rfl))
    (try simp only [Act.put, Lp0, Lp1, Lp2])
    refine' tk (i := 6) rfl (by decide +kernel) (Or.inl ⟨by rfl, ?_⟩) (by assumption) (fun _ _ _ h => h) ?_
    rotate_left 1
    ·(intro w_ hSw_; (try dsimp only at hSw_); go_simp; (try with_reducible rfl))
    (try simp only [Act.put, Lp0, Lp1, Lp2])
    refine br1 (i := 4) (by decide +kernel) rfl (fun K hK => ?_)
    go_simp
    (go_at_call 54; (with_reducible refine (HFI.out _).mono ?_); rintro e v1 ⟨R1, q1, rfl, m1, hq1⟩; have qv1 : Below wr.heap.size wr v1 := bel_step BG hq1; have c0 := keep_cell qv1 c0; have c1 := keep_cell qv1 c1; have t0 := keep_cell qv1 t0; have t1 := keep_cell qv1 t1; have t2 := keep_cell qv1 t2; have t3 := keep_cell qv1 t3; have fz := (HS.out.below qv1).zm.fr)
    (try go_wp2_with fail)
    refine hK.out _ _ ?_ (fun hHeld => ?_)
    ·(first | ((try dsimp only); repeat' (first | with_reducible assumption | apply And.intro | (with_reducible refine keep_alloc ?_) | (with_reducible refine keep_drew ?_) | (with_reducible refine keep_set (by omega) ?_) | (with_reducible refine keep_sets (by omega) ?_) | (with_reducible refine keep_cell (W := wr) ?_ ?_) | fail)))
    clear hK K
    (try simp only [Act.put, Lp0, Lp1, Lp2])
    refine' tk (i := 5) rfl (by decide +kernel) (Or.inl ⟨by rfl, ?_⟩) (by assumption) (fun _ _ _ h => h) ?_
    rotate_left 1
    ·(intro w_ hSw_; (try dsimp only at hSw_); go_simp; (try with_reducible rfl))
    (try simp only [Act.put, Lp0, Lp1, Lp2])
    refine' tk (i := 7) rfl (by decide +kernel) (Or.inl ⟨by rfl, ?_⟩) (by assumption) (fun _ _ _ h => h) ?_
    rotate_left 1
    ·(intro w_ hSw_; (try dsimp only at hSw_); go_simp; (try with_reducible rfl))
    (try simp only [Act.put, Lp0, Lp1, Lp2])
    refine br1 (i := 8) (by decide +kernel) rfl (fun K hK => ?_)
    go_simp
    skip
    (try go_wp2_with fail)
    refine hK.out _ _ ?_ (fun hHeld => ?_)
    ·(exact ⟨keep_set (Ne.symm hne) (keep_set (Ne.symm hne) (keep_set (Ne.symm hne) (keep_set (Ne.symm hne) c0))), keep_set (Ne.symm hne) (keep_set (Ne.symm hne) (keep_set (Ne.symm hne) (keep_set (Ne.symm hne) c1)))⟩)
    clear hK K
    (try simp only [Act.put, Lp0, Lp1, Lp2])
    refine wpAnyH_done (by kernel_rfl) ?_ _
    have hF5 := (HS.out.below qv1).setF (j := j) (by omega) ⟨ez, eb, en, exs, eA, ec⟩ ⟨1, Ib, In, IL, R1, q1⟩ (HX.out.below qv1) ⟨I1.out, m1⟩
    dsimp only at hF5
    rw [HN.out] at hF5
    have HF5 := hid hF5
    have hb5 := hid (below_set (below_set (below_set (below_set (bel_step hbv qv1) hU5.out (j * 4) (.bool eb)) hU5.out (j * 4 + 1) (.slice eA en ec)) hU5.out (j * 4 + 2) (.bool Ib)) hU5.out (j * 4 + 3) (.slice R1 In q1))
    clear hF5
    go_wp2
    go_roundw
    case rel => exact ⟨j + 1, by omega, by go_num, HF5.out, hb5.out, HG.out⟩
    case measure => simp [intOf]; omega
   ·have hng : (40 : Int) < (e.n : Int) := by omega
    rw [hbad h40] at hRZ
    have HR : Hid (resZ (l.map (·.z)) = (List.replicate 18 0, 4)) := hRZ
    obtain ⟨r1, zn1, _⟩ := hS.k (w.heap.size + 1, cellsM zeros18) (by simp)
    dsimp only at r1 zn1
    have HB := hS.b
    clear hbad hgood h40 hS hbv z1 n1 ox hzx hle hRZ
    go_upto_region 7 with fail
    have ht := rng_there r1 zn1
    have ho := all_oneCell_toArray (cellsM_one zeros18)
    obtain ⟨d32, u32, row32⟩ := T32u
    obtain ⟨G1, G2, G3, G4⟩ := fin_N (w := w) (l := zeros18) (cs := zeros18) u32 row32 T32i HB (by omega) r1 zn1 rfl (fun e he => by rw [List.eq_of_mem_replicate he]; exact ZE.zero_ok _)
    have HF := hid (And.intro G3 G4)
    clear G1 G3 G4
    go_wp2_with (first | refine wpList_store_mid (by rfl) _ _ _ (by rfl) (w.heap.size + 1) 0 (cellsM zeros18).toArray (by rfl) (by rfl) ht T32i ho ?_ | fail)
    refine bodyPost_ret (v := .tuple #[.agg (cellsM zeros18).toArray, .int .i64 4]) ?_ rfl ?_
    ·simp [results, Tryz.results39, Sem.run_bind, asAddr, G2]
    ·rw [HR.out]
     exact ⟨zeros18, rfl, rfl, HF.out.2, HF.out.1⟩
  ·obtain rfl : j = 9 := by omega
   rw [hsof_all hN9] at hS
   obtain ⟨lh, e2, e3, e4⟩ := hS.ex
   have e1 : lh.length = 18 := by rw [← List.length_map (·.z), e4, homZ_len, hN9]
   rw [← hle, decide_eq_true (fun e he => by obtain ⟨i, hi, rfl⟩ := List.getElem_of_mem he; exact hp.out i hi (by omega)), if_pos rfl] at hRZ
   have HR : Hid (resZ (l.map (·.z)) = (homZ N, 0)) := hRZ
   obtain ⟨r1, zn1, _⟩ := hS.k (w.heap.size + 1, cellsM zeros18) (by simp)
   dsimp only at r1 zn1
   have HB := hS.b
   have hi36 := hid (show (Tryz.prog.info? 32).map (·.size) = some (cellsM lh).length by rw [cellsM_len, e1]; exact T32i)
   have hi36' := hid (show (Tryz.prog.info? 32).map (·.size) = some (cellsM lh).toArray.size by rw [List.size_toArray, cellsM_len, e1]; exact T32i)
   obtain ⟨G1, G2, G3, G4⟩ := fin_N (w := w) (l := lh) (cs := zeros18) u32 row32 hi36.out HB (by omega) r1 zn1 (by rw [e1]; rfl) e3
   have HF := hid (And.intro e4 (And.intro G3 G4))
   have ht := rng_there r1 zn1
   rw [show (cellsM zeros18).length = (cellsM lh).toArray.size by rw [List.size_toArray, cellsM_len, cellsM_len, e1]; rfl] at ht
   have ho := all_oneCell_toArray (cellsM_one lh)
   clear e1 e3 e4 G1 G3 G4 hS r1 zn1 hle hRZ hp
   go_wp2_with (first | refine wpList_load_mid (by rfl) _ _ (by rfl) g5 0 (by rfl) (cellsM lh) _ e2 u32 row32 hi36.out ?_ | refine wpList_store_mid (by rfl) _ _ _ (by rfl) (w.heap.size + 1) 0 (cellsM lh).toArray (by rfl) (by rfl) ht hi36'.out ho ?_ | fail)
   refine bodyPost_ret (v := .tuple #[.agg (cellsM lh).toArray, .int .i64 0]) ?_ rfl ?_
   ·simp [results, Tryz.results39, Sem.run_bind, asAddr, Act.put, G2]
   ·rw [HR.out]
    exact ⟨lh, rfl, HF.out.1, HF.out.2.2, HF.out.2.1⟩
end Go.Proofs.YtgnfobnkhjlbbaaGreat
