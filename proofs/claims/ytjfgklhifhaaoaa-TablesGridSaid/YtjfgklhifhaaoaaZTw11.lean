/- Tables: Rules of the package. Conditions: none. -/
import Derived.Test.YtjfgklhifhaaoaaZTw10
import Derived.Test.YtjfgklhifhaaoaaZTw8
import Derived.Test.YtjfgklhifhaaoaaZTe2
set_option linter.unusedVariables false
set_option linter.unusedSimpArgs false
namespace Go.Proofs.Ytjfgklhifhaaoaa
open Go.RowKit
theorem pix_idx {m : Bm} (hm : bmB m = true) {x y : Nat} (hx : x < m.w.toNat) (hy : y < m.h.toNat) :
  y * m.w.toNat + x < m.d.length ∧ IntKind.i64.wrap ((y : Int) * m.w) = ((y * m.w.toNat : Nat) : Int) ∧ IntKind.i64.wrap (((y * m.w.toNat : Nat) : Int) + (x : Int)) = ((y * m.w.toNat + x : Nat) : Int) := by
 obtain ⟨⟨a, b, c, d, e⟩, hl⟩ := bmB_iff.1 hm
 obtain ⟨W, hW⟩ := Int.eq_ofNat_of_zero_le (show 0 ≤ m.w by omega)
 obtain ⟨H, hH⟩ := Int.eq_ofNat_of_zero_le (show 0 ≤ m.h by omega)
 rw [hW] at hx hl b ⊢
 rw [hH] at hy hl d
 simp only [Int.toNat_natCast] at hx hy ⊢
 have h1 := px_place hx hy
 have h2 : W * H ≤ 4096 * 4096 := Nat.mul_le_mul (by omega) (by omega)
 rw [← Int.natCast_mul] at hl
 refine ⟨by omega, ?_, ?_⟩
 ·rw [IntKind.wrap_i64, ← Int.natCast_mul]; omega
 ·rw [IntKind.wrap_i64]; omega
/-- the boxes that the closures of Rules read: the bitmap and a number -/
structure RlB (W : World) (gm gy : Nat) (m : Bm) (A : Option Addr) (c : Nat) (z : Int) : Prop where
 m0 : W.cell? ⟨gm, 0, none⟩ = some (.int .i64 m.w)
 m1 : W.cell? ⟨gm, 1, none⟩ = some (.int .i64 m.h)
 m2 : W.cell? ⟨gm, 2, none⟩ = some (.slice A m.d.length c)
 y0 : W.cell? ⟨gy, 0, none⟩ = some (.int .i64 z)
 d : BoK.Rd W A c m.d
theorem RlB.below {W W' : World} {gm gy : Nat} {m : Bm} {A : Option Addr} {c : Nat} {z : Int} (h : RlB W gm gy m A c z) (hb : Below W.heap.size W W') : RlB W' gm gy m A c z :=
 ⟨keep_cell hb h.m0, keep_cell hb h.m1, keep_cell hb h.m2, keep_cell hb h.y0, h.d.below hb⟩
set_option maxHeartbeats 2000000 in
theorem Rl11_g (m : Bm) (A : Option Addr) (c gm gy : Nat) (x y : Nat) {W : World} (hm : bmB m = true) (hb : RlB W gm gy m A c (y : Int)) (hx : x < m.w.toNat) (hy : y < m.h.toNat) :
  Calls Try.prog 23 (#[.int .i64 (x : Int)] ++ #[.pointer (some ⟨gm, 0, none⟩), .pointer (some ⟨gy, 0, none⟩)]) W (RetB W (rowP m y x)) := by
 obtain ⟨h1, h2, h3⟩ := pix_idx hm hx hy
 obtain ⟨b, o, hA, hc⟩ := hb.d.at_ h1
 have f0 : W.cell? ⟨b, o + (y * m.w.toNat + x) * 1, none⟩ = some (.bool m.d[y * m.w.toNat + x]) := hc 0 _ rfl
 rw [Nat.mul_one] at f0
 have hv : rowP m y x = m.d[y * m.w.toNat + x] := by
  unfold rowP
  rw [List.getD_eq_getElem?_getD, List.getElem?_eq_getElem h1]; rfl
 obtain ⟨m0, m1, m2, y0, -⟩ := hb
 subst hA
 rw [hv]
 generalize m.d[y * m.w.toNat + x] = q at *
 generalize y * m.w.toNat + x = ix at *
 generalize y * m.w.toNat = iy at *
 generalize m.d.length = n at *
 have hii : (ix : Int) < (n : Int) := by omega
 clear hv hc
 have HB := Below.refl W.heap.size W
 show Calls Try.prog 23 #[.int .i64 (x : Int), .pointer (some ⟨gm, 0, none⟩), .pointer (some ⟨gy, 0, none⟩)] W (RetB W q)
 go_enter Try.func23, Try.ntmps23
 go_wp2
 go_ret
 exact ⟨rfl, HB⟩
set_option maxHeartbeats 2000000 in
theorem Rl21_g (m : Bm) (A : Option Addr) (c gm gy : Nat) (x y : Nat) {W : World} (hm : bmB m = true) (hb : RlB W gm gy m A c (y : Int)) (hx : y < m.w.toNat) (hy : x < m.h.toNat) :
  Calls Try.prog 25 (#[.int .i64 (x : Int)] ++ #[.pointer (some ⟨gm, 0, none⟩), .pointer (some ⟨gy, 0, none⟩)]) W (RetB W (colP m y x)) := by
 obtain ⟨h1, h2, h3⟩ := pix_idx hm hx hy
 obtain ⟨b, o, hA, hc⟩ := hb.d.at_ h1
 have f0 : W.cell? ⟨b, o + (x * m.w.toNat + y) * 1, none⟩ = some (.bool m.d[x * m.w.toNat + y]) := hc 0 _ rfl
 rw [Nat.mul_one] at f0
 have hv : colP m y x = m.d[x * m.w.toNat + y] := by
  unfold colP
  rw [List.getD_eq_getElem?_getD, List.getElem?_eq_getElem h1]; rfl
 obtain ⟨m0, m1, m2, y0, -⟩ := hb
 subst hA
 rw [hv]
 generalize m.d[x * m.w.toNat + y] = q at *
 generalize x * m.w.toNat + y = ix at *
 generalize x * m.w.toNat = iy at *
 generalize m.d.length = n at *
 have hii : (ix : Int) < (n : Int) := by omega
 clear hv hc
 have HB := Below.refl W.heap.size W
 show Calls Try.prog 25 #[.int .i64 (x : Int), .pointer (some ⟨gm, 0, none⟩), .pointer (some ⟨gy, 0, none⟩)] W (RetB W q)
 go_enter Try.func25, Try.ntmps25
 go_wp2
 go_ret
 exact ⟨rfl, HB⟩
theorem bm_side {m : Bm} (hm : bmB m = true) : m.w = (m.w.toNat : Int) ∧ m.h = (m.h.toNat : Int) ∧ m.w.toNat ≤ 4096 ∧ m.h.toNat ≤ 4096 := by
 obtain ⟨⟨a, b, c, d, e⟩, _⟩ := bmB_iff.1 hm
 omega
set_option maxHeartbeats 2000000 in
theorem Rl1_g (m : Bm) (A : Option Addr) (c gm gk : Nat) (k : Int) (y : Nat) {W : World} (hm : bmB m = true) (hk : 1 ≤ k ∧ k ≤ 4096) (hb : RlB W gm gk m A c k) (hy : y < m.h.toNat) :
  Calls Try.prog 21 (#[.int .i64 (y : Int)] ++ #[.pointer (some ⟨gm, 0, none⟩), .pointer (some ⟨gk, 0, none⟩)]) W (RnK.Ret W (rowsR m k y)) := by
 obtain ⟨s1, s2, s3, s4⟩ := bm_side hm
 obtain ⟨K, rfl⟩ := Int.eq_ofNat_of_zero_le (show 0 ≤ k by omega)
 have HR := hid fun (V : World) (gy : Nat) (hb2 : RlB V gm gy m A c (y : Int)) => (show Calls Try.prog 22 #[.int .i64 m.w, .int .i64 (K : Int), .func (.func 23) #[] #[.pointer (some ⟨gm, 0, none⟩), .pointer (some ⟨gy, 0, none⟩)]] V (RnK.Ret V (rowsR m (K : Int) y)) from by
  have h := Truns_g 23 #[.pointer (some ⟨gm, 0, none⟩), .pointer (some ⟨gy, 0, none⟩)] (rowP m y) m.w.toNat K (w := V) (enters_of Try.func23 (by kernel_rfl) rfl) (by omega) (by omega) (by omega) (fun V2 hv x hx => Rl11_g m A c gm gy x y hm (hb2.below hv) (by omega) (by omega))
  unfold rowsR
  rw [show ((m.w.toNat : Nat) : Int) = m.w by omega] at h
  simpa using h)
 obtain ⟨m0, m1, m2, y0, hd⟩ := hb
 replace hd := hid hd
 clear s1 s2 s3 s4
 show Calls Try.prog 21 #[.int .i64 (y : Int), .pointer (some ⟨gm, 0, none⟩), .pointer (some ⟨gk, 0, none⟩)] W (RnK.Ret W (rowsR m (K : Int) y))
 go_enter Try.func21, Try.ntmps21
 go_upto_region 1 with fail
 refine enterR (P := fun u => Code.wp _ _ _ _ u) (c := [.int .i64 (y : Int)]) ?_
 intro u HB r0 zn0 hsz
 have HR2 := hid (HR.out u W.heap.size ⟨keep_cell HB m0, keep_cell HB m1, keep_cell HB m2, r0 0 _ rfl, hd.out.below HB⟩)
 have n0 := keep_cell HB m0
 have n1 := keep_cell HB m1
 have n2 := keep_cell HB y0
 clear HR hd m0 m1 m2 y0 r0 zn0 hsz
 go_wp2_with fail
 refine HR2.out.mono ?_
 rintro e v ⟨t, rfl, hO, hv⟩
 have HB' := hid (bel_step HB hv)
 have hO2 := hid (hO.older HB.size)
 clear HR2 hO hv HB n0 n1 n2
 go_wp2
 go_ret
 exact ⟨_, rfl, hO2.out, HB'.out⟩
set_option maxHeartbeats 2000000 in
theorem Rl2_g (m : Bm) (A : Option Addr) (c gm gk : Nat) (k : Int) (y : Nat) {W : World} (hm : bmB m = true) (hk : 1 ≤ k ∧ k ≤ 4096) (hb : RlB W gm gk m A c k) (hy : y < m.w.toNat) :
  Calls Try.prog 24 (#[.int .i64 (y : Int)] ++ #[.pointer (some ⟨gm, 0, none⟩), .pointer (some ⟨gk, 0, none⟩)]) W (RnK.Ret W (colsR m k y)) := by
 obtain ⟨s1, s2, s3, s4⟩ := bm_side hm
 obtain ⟨K, rfl⟩ := Int.eq_ofNat_of_zero_le (show 0 ≤ k by omega)
 have HR := hid fun (V : World) (gy : Nat) (hb2 : RlB V gm gy m A c (y : Int)) => (show Calls Try.prog 22 #[.int .i64 m.h, .int .i64 (K : Int), .func (.func 25) #[] #[.pointer (some ⟨gm, 0, none⟩), .pointer (some ⟨gy, 0, none⟩)]] V (RnK.Ret V (colsR m (K : Int) y)) from by
  have h := Truns_g 25 #[.pointer (some ⟨gm, 0, none⟩), .pointer (some ⟨gy, 0, none⟩)] (colP m y) m.h.toNat K (w := V) (enters_of Try.func25 (by kernel_rfl) rfl) (by omega) (by omega) (by omega) (fun V2 hv x hx => Rl21_g m A c gm gy x y hm (hb2.below hv) (by omega) (by omega))
  unfold colsR
  rw [show ((m.h.toNat : Nat) : Int) = m.h by omega] at h
  simpa using h)
 obtain ⟨m0, m1, m2, y0, hd⟩ := hb
 replace hd := hid hd
 clear s1 s2 s3 s4
 show Calls Try.prog 24 #[.int .i64 (y : Int), .pointer (some ⟨gm, 0, none⟩), .pointer (some ⟨gk, 0, none⟩)] W (RnK.Ret W (colsR m (K : Int) y))
 go_enter Try.func24, Try.ntmps24
 go_upto_region 1 with fail
 refine enterR (P := fun u => Code.wp _ _ _ _ u) (c := [.int .i64 (y : Int)]) ?_
 intro u HB r0 zn0 hsz
 have HR2 := hid (HR.out u W.heap.size ⟨keep_cell HB m0, keep_cell HB m1, keep_cell HB m2, r0 0 _ rfl, hd.out.below HB⟩)
 have n0 := keep_cell HB m0
 have n1 := keep_cell HB m1
 have n2 := keep_cell HB y0
 clear HR hd m0 m1 m2 y0 r0 zn0 hsz
 go_wp2_with fail
 refine HR2.out.mono ?_
 rintro e v ⟨t, rfl, hO, hv⟩
 have HB' := hid (bel_step HB hv)
 have hO2 := hid (hO.older HB.size)
 clear HR2 hO hv HB n0 n1 n2
 go_wp2
 go_ret
 exact ⟨_, rfl, hO2.out, HB'.out⟩
end Go.Proofs.Ytjfgklhifhaaoaa
