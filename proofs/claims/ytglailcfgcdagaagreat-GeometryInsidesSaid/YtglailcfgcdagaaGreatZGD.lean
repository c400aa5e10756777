/- Geometry: determinants as integers without limit, in the package and in the reference. Conditions: the numbers fit into 64 bits. -/
import Derived.Test.YtglailcfgcdagaaGreatZGC
import Derived.Test.YtglailcfgcdagaaGreatZYM2
import Derived.Test.YtglailcfgcdagaaGreatZYI
import Derived.Test.YtglailcfgcdagaaGreatZYJ
import Derived.Test.YtglailcfgcdagaaGreatZXG
set_option linter.unusedVariables false
set_option linter.unusedSimpArgs false
namespace Go.Proofs.YtglailcfgcdagaaGreat
open Go.RowKit Big
/-- a number of 64 bits -/
def i64B (a : Int) : Prop := -9223372036854775808 ≤ a ∧ a ≤ 9223372036854775807
theorem bz_i64 {a : Int} (h : i64B a) : Bz 64 a := by
 unfold i64B at h; unfold Bz
 have e : (2 : Int) ^ 64 = 18446744073709551616 := by decide
 first | (rw [e]; omega) | (simp only [e]; omega) | omega
set_option maxHeartbeats 4000000 in
theorem Gdet_g {a b c d z : Int} (ha : i64B a) (hb : i64B b) (hc : i64B c) (hd : i64B d) {bz : Bool} {nz : Nat} {zs : List Nat} (hz : Iz z bz nz zs) (h : a * d - b * c = z) (w : World) :
  Calls Tryz.prog 30 #[.int .i64 a, .int .i64 b, .int .i64 c, .int .i64 d] w (GZ w bz nz zs) := by
 obtain ⟨b1, n1, s1, I1⟩ := iz a
 obtain ⟨b2, n2, s2, I2⟩ := iz d
 obtain ⟨b3, n3, s3, I3⟩ := iz b
 obtain ⟨b4, n4, s4, I4⟩ := iz c
 obtain ⟨b5, n5, s5, I5⟩ := iz (a * d)
 obtain ⟨b6, n6, s6, I6⟩ := iz (b * c)
 have z1 := bz_i64 ha
 have z2 := bz_i64 hd
 have z3 := bz_i64 hb
 have z4 := bz_i64 hc
 have z5 := z1.mul z2
 have z6 := z3.mul z4
 have z7 := z5.sub z6
 rw [h] at z7
 have HF1 := hid fun (W : World) => FromInt_g (w := W) I1.out ha.1 ha.2
 have HF2 := hid fun (W : World) => FromInt_g (w := W) I2.out hd.1 hd.2
 have HF3 := hid fun (W : World) => FromInt_g (w := W) I3.out hb.1 hb.2
 have HF4 := hid fun (W : World) => FromInt_g (w := W) I4.out hc.1 hc.2
 have HM1 := hid fun (W : World) (R Q : Option Addr) (c d : Nat) (m1 : Mg W R c s1) (m2 : Mg W Q d s2) => Mul_g (w := W) I1.out I2.out I5.out (fitE_yes (z5.ft (by omega))) m1 m2 (z1.ft (by omega)) (z2.ft (by omega)) rfl
 have HM2 := hid fun (W : World) (R Q : Option Addr) (c d : Nat) (m1 : Mg W R c s3) (m2 : Mg W Q d s4) => Mul_g (w := W) I3.out I4.out I6.out (fitE_yes (z6.ft (by omega))) m1 m2 (z3.ft (by omega)) (z4.ft (by omega)) rfl
 have HS := hid fun (W : World) (R Q : Option Addr) (c d : Nat) (m1 : Mg W R c s5) (m2 : Mg W Q d s6) => Sub_g (w := W) I5.out I6.out hz (fitE_yes (z7.ft (by omega))) m1 m2 (z5.ft (by omega)) (z6.ft (by omega)) h
 clear ha hb hc hd hz h z1 z2 z3 z4 z5 z6 z7 I1 I2 I3 I4 I5 I6
 go_enter Tryz.func30, Tryz.ntmps30
 go_upto_region 1 with fail
 refine enterR (P := fun u => Code.wp _ _ _ _ u) (c := [.bool false, .slice none 0 0]) ?_
 intro u HB rk znk hsz
 clear hsz
 go_wp2_with fail
 refine (HF1.out u).mono ?_
 rintro e v1 ⟨R1, cR1, rfl, mR1, hv⟩
 have rk := rng_below rk hv
 have znk := znk.below hv
 have HB := bel_step HB hv
 go_wp2_with fail
 refine (HF2.out v1).mono ?_
 rintro e v2 ⟨R2, cR2, rfl, mR2, hv⟩
 have rk := rng_below rk hv
 have znk := znk.below hv
 have HB := bel_step HB hv
 replace mR1 := mR1.below hv
 clear hv
 go_wp2_with fail
 refine (HM1.out v2 R1 R2 cR1 cR2 mR1 mR2).mono ?_
 rintro e v3 ⟨R3, cR3, rfl, mR3, hv⟩
 have rk := rng_below rk hv
 have znk := znk.below hv
 have HB := bel_step HB hv
 clear hv mR1 mR2 HF1 HF2 HM1
 go_upto_region 2 with fail
 refine enterR (P := fun u => Code.wp _ _ _ _ u) (c := [.bool b5, .slice R3 n5 cR3]) ?_
 intro v4 hv r9 zn9 hsz
 have rk := rng_below rk hv
 have znk := znk.below hv
 have HB := bel_step HB hv
 have mR3 := mR3.below hv
 obtain ⟨g9, hg9⟩ : ∃ g, v3.heap.size = g := ⟨_, rfl⟩
 rw [hg9] at r9 ⊢
 clear zn9 hsz hv hg9
 go_wp2_with fail
 refine (HF3.out v4).mono ?_
 rintro e v5 ⟨R4, cR4, rfl, mR4, hv⟩
 have rk := rng_below rk hv
 have znk := znk.below hv
 have HB := bel_step HB hv
 have r9 := rng_below r9 hv
 replace mR3 := mR3.below hv
 go_wp2_with fail
 refine (HF4.out v5).mono ?_
 rintro e v6 ⟨R5, cR5, rfl, mR5, hv⟩
 have rk := rng_below rk hv
 have znk := znk.below hv
 have HB := bel_step HB hv
 have r9 := rng_below r9 hv
 replace mR3 := mR3.below hv
 replace mR4 := mR4.below hv
 go_wp2_with fail
 refine (HM2.out v6 R4 R5 cR4 cR5 mR4 mR5).mono ?_
 rintro e v7 ⟨R6, cR6, rfl, mR6, hv⟩
 have rk := rng_below rk hv
 have znk := znk.below hv
 have HB := bel_step HB hv
 have r9 := rng_below r9 hv
 replace mR3 := mR3.below hv
 clear hv mR4 mR5 HF3 HF4 HM2
 go_upto_region 3 with fail
 refine enterR (P := fun u => Code.wp _ _ _ _ u) (c := [.bool b6, .slice R6 n6 cR6]) ?_
 intro v8 hv r11 zn11 hsz
 have rk := rng_below rk hv
 have znk := znk.below hv
 have HB := bel_step HB hv
 have r9 := rng_below r9 hv
 have mR3 := mR3.below hv
 have mR6 := mR6.below hv
 obtain ⟨g11, hg11⟩ : ∃ g, v7.heap.size = g := ⟨_, rfl⟩
 rw [hg11] at r11 ⊢
 clear zn11 hsz hv hg11
 have p0 : v8.cell? ⟨g9, 0, none⟩ = some (.bool b5) := r9 0 _ rfl
 have p1 : v8.cell? ⟨g9, 1, none⟩ = some (.slice R3 n5 cR3) := r9 1 _ rfl
 have q0 : v8.cell? ⟨g11, 0, none⟩ = some (.bool b6) := r11 0 _ rfl
 have q1 : v8.cell? ⟨g11, 1, none⟩ = some (.slice R6 n6 cR6) := r11 1 _ rfl
 clear r9 r11
 go_wp2_with fail
 refine (HS.out v8 R3 R6 cR3 cR6 mR3 mR6).mono ?_
 rintro e v9 ⟨R7, cR7, rfl, mR7, hv⟩
 have rk := rng_below rk hv
 have znk := znk.below hv
 have HB := bel_step HB hv
 clear hv mR3 mR6 HS p0 p1 q0 q1
 go_upto_region 4 with fail
 refine enterR (P := fun u => Code.wp _ _ _ _ u) (c := [.bool bz, .slice R7 nz cR7]) ?_
 intro v10 hv r13 zn13 hsz
 have rk := rng_below rk hv
 have znk := znk.below hv
 have HB := bel_step HB hv
 have mR7 := mR7.below hv
 obtain ⟨g13, hg13⟩ : ∃ g, v9.heap.size = g := ⟨_, rfl⟩
 rw [hg13] at r13 ⊢
 clear zn13 hsz hv hg13
 have p0 : v10.cell? ⟨g13, 0, none⟩ = some (.bool bz) := r13 0 _ rfl
 have p1 : v10.cell? ⟨g13, 1, none⟩ = some (.slice R7 nz cR7) := r13 1 _ rfl
 have k0 : v10.cell? ⟨w.heap.size, 0, none⟩ = some (.bool false) := rk 0 _ rfl
 have k1 : v10.cell? ⟨w.heap.size, 1, none⟩ = some (.slice none 0 0) := rk 1 _ rfl
 have ltk := cell_lt k0
 have fk := znk.fr
 have hfin := hid (fin_i mR7 HB (Nat.le_refl _) k0 k1 (.bool bz) (.slice R7 nz cR7))
 clear rk znk HB mR7 r13
 go_wp2
 refine bodyPost_ret (v := .agg #[.bool bz, .slice R7 nz cR7]) ?_ rfl ?_
 ·simp [results, Tryz.results30, go_sem, k0, k1]
 ·exact ⟨R7, cR7, rfl, hfin.out.1, hfin.out.2⟩
end Go.Proofs.YtglailcfgcdagaaGreat
/- Geometry: fraction.New and the reference's New of integers; the point of two lines in plain numbers. Conditions: numbers that fit. -/
namespace Go.Proofs.YtglailcfgcdagaaGreat
open Go.RowKit Big
theorem GNew_z {x y : Int} {bx by_ : Bool} {kx ky : Nat} {Lx Ly : List Nat} {R Q : Option Addr} {c d : Nat} {w1 : World} (IX : Iz x bx kx Lx) (IY : Iz y by_ ky Ly) (fx : fits x) (fy : fits y) {p : Int × Nat} {err : Int} (hq : newE x y = (p, err)) {bq : Bool} {kq lq : Nat} {Xq Yq : List Nat} (IQ : Fz p bq kq Xq lq Yq) (mx : Mg w1 R c Lx) (my : Mg w1 Q d Ly) :
  Calls Tryz.prog 31 #[.agg #[.bool bx, .slice R kx c], .agg #[.bool by_, .slice Q ky d]] w1 (GF w1 bq kq Xq lq Yq err) := by
 obtain ⟨rfl, rfl, rfl⟩ := IX
 obtain ⟨rfl, rfl, rfl⟩ := IY
 have h := FrNew_any (w := w1) (na := decide (x < 0)) (nb := decide (y < 0)) mx my
 rw [newR_int x y fx fy, hq] at h
 exact h.mono fun e w' h => RetFE.g h IQ
/-- the determinants of two lines -/
def mD (a b : Int × Int × Int) : Int := a.1 * b.2.1 - a.2.1 * b.1
def mX (a b : Int × Int × Int) : Int := a.2.2 * b.2.1 - a.2.1 * b.2.2
def mY (a b : Int × Int × Int) : Int := a.1 * b.2.2 - a.2.2 * b.1
end Go.Proofs.YtglailcfgcdagaaGreat
