/- Geometry: cross products, squares of distances, divisors, in the package and in the reference. Conditions: coordinates in range. -/
import Derived.Test.YtglailcfgcdagaaGreatZGA
import Derived.Test.YtglailcfgcdagaaGreatZYO
import Derived.Test.YtglailcfgcdagaaGreatZYE
set_option linter.unusedVariables false
set_option linter.unusedSimpArgs false
namespace Go.Proofs.YtglailcfgcdagaaGreat
open Go.RowKit Big
theorem mul_box {x y k l : Int} (hx : -k ≤ x ∧ x ≤ k) (hy : -l ≤ y ∧ y ≤ l) : -(k * l) ≤ x * y ∧ x * y ≤ k * l := by
 have h : (x * y).natAbs ≤ k.natAbs * l.natAbs := by rw [Int.natAbs_mul]; exact Nat.mul_le_mul (by omega) (by omega)
 have e : ((k.natAbs * l.natAbs : Nat) : Int) = k * l := by rw [Int.natCast_mul]; rw [Int.natAbs_of_nonneg (by omega), Int.natAbs_of_nonneg (by omega)]
 omega
set_option maxHeartbeats 1000000 in
theorem Gcross_g {o a b : Int × Int} (ho : inP o = true) (ha : inP a = true) (hb : inP b = true) (w : World) : Calls Tryz.prog 23 #[.agg #[.int .i64 o.1, .int .i64 o.2], .agg #[.int .i64 a.1, .int .i64 a.2], .agg #[.int .i64 b.1, .int .i64 b.2]] w (RetI w (crsZ o a b)) := by
 obtain ⟨o0, o1⟩ := o
 obtain ⟨a0, a1⟩ := a
 obtain ⟨b0, b1⟩ := b
 have h1 := inP_iff.1 ho
 have h2 := inP_iff.1 ha
 have h3 := inP_iff.1 hb
 dsimp only at h1 h2 h3
 obtain ⟨x1, e1⟩ : ∃ x, a0 - o0 = x := ⟨_, rfl⟩
 obtain ⟨x2, e2⟩ : ∃ x, b1 - o1 = x := ⟨_, rfl⟩
 obtain ⟨x3, e3⟩ : ∃ x, a1 - o1 = x := ⟨_, rfl⟩
 obtain ⟨x4, e4⟩ : ∃ x, b0 - o0 = x := ⟨_, rfl⟩
 have m1 := mul_box (k := 33554432) (l := 33554432) (show -33554432 ≤ x1 ∧ x1 ≤ 33554432 by omega) (show -33554432 ≤ x2 ∧ x2 ≤ 33554432 by omega)
 have m2 := mul_box (k := 33554432) (l := 33554432) (show -33554432 ≤ x3 ∧ x3 ≤ 33554432 by omega) (show -33554432 ≤ x4 ∧ x4 ≤ 33554432 by omega)
 obtain ⟨y1, e5⟩ : ∃ x, x1 * x2 = x := ⟨_, rfl⟩
 obtain ⟨y2, e6⟩ : ∃ x, x3 * x4 = x := ⟨_, rfl⟩
 obtain ⟨z, e7⟩ : ∃ x, y1 - y2 = x := ⟨_, rfl⟩
 have hZ := hid (show z = crsZ (o0, o1) (a0, a1) (b0, b1) by unfold crsZ; dsimp only; rw [e1, e2, e3, e4, e5, e6, e7])
 rw [e5] at m1
 rw [e6] at m2
 have i1 : IntKind.i64.wrap x1 = x1 := by rw [IntKind.wrap_i64]; omega
 have i2 : IntKind.i64.wrap x2 = x2 := by rw [IntKind.wrap_i64]; omega
 have i3 : IntKind.i64.wrap x3 = x3 := by rw [IntKind.wrap_i64]; omega
 have i4 : IntKind.i64.wrap x4 = x4 := by rw [IntKind.wrap_i64]; omega
 have i5 : IntKind.i64.wrap y1 = y1 := by rw [IntKind.wrap_i64]; omega
 have i6 : IntKind.i64.wrap y2 = y2 := by rw [IntKind.wrap_i64]; omega
 have i7 : IntKind.i64.wrap z = z := by rw [IntKind.wrap_i64]; omega
 rw [← hZ.out]
 clear hZ ho ha hb h1 h2 h3 m1 m2
 dsimp only
 go_enter Tryz.func23, Tryz.ntmps23
 go_upto_region 1 with fail
 refine enterR3 (P := fun u => Code.wp _ _ _ _ u) (c0 := [.int .i64 o0, .int .i64 o1]) (c1 := [.int .i64 a0, .int .i64 a1]) (c2 := [.int .i64 b0, .int .i64 b1]) ?_
 intro u HB r0 r1 r2 zn0 zn1 zn2 hsz
 clear hsz zn0 zn1 zn2
 have co0 : (u).cell? ⟨w.heap.size, 0, none⟩ = some (.int .i64 o0) := r0 0 _ rfl
 have co1 : (u).cell? ⟨w.heap.size, 1, none⟩ = some (.int .i64 o1) := r0 1 _ rfl
 have ca0 : (u).cell? ⟨w.heap.size + 1, 0, none⟩ = some (.int .i64 a0) := r1 0 _ rfl
 have ca1 : (u).cell? ⟨w.heap.size + 1, 1, none⟩ = some (.int .i64 a1) := r1 1 _ rfl
 have cb0 : (u).cell? ⟨w.heap.size + 1 + 1, 0, none⟩ = some (.int .i64 b0) := r2 0 _ rfl
 have cb1 : (u).cell? ⟨w.heap.size + 1 + 1, 1, none⟩ = some (.int .i64 b1) := r2 1 _ rfl
 clear r0 r1 r2
 go_wp2
 go_ret
 exact ⟨rfl, HB⟩
set_option maxHeartbeats 1000000 in
theorem Rcross_g {o a b : Int × Int} (ho : inP o = true) (ha : inP a = true) (hb : inP b = true) (w : World) : Calls Tryz.prog 26 #[.agg #[.int .i64 o.1, .int .i64 o.2], .agg #[.int .i64 a.1, .int .i64 a.2], .agg #[.int .i64 b.1, .int .i64 b.2]] w (RetI w (crsZ o a b)) := by
 obtain ⟨o0, o1⟩ := o
 obtain ⟨a0, a1⟩ := a
 obtain ⟨b0, b1⟩ := b
 have h1 := inP_iff.1 ho
 have h2 := inP_iff.1 ha
 have h3 := inP_iff.1 hb
 dsimp only at h1 h2 h3
 obtain ⟨x1, e1⟩ : ∃ x, a0 - o0 = x := ⟨_, rfl⟩
 obtain ⟨x2, e2⟩ : ∃ x, b1 - o1 = x := ⟨_, rfl⟩
 obtain ⟨x3, e3⟩ : ∃ x, a1 - o1 = x := ⟨_, rfl⟩
 obtain ⟨x4, e4⟩ : ∃ x, b0 - o0 = x := ⟨_, rfl⟩
 have m1 := mul_box (k := 33554432) (l := 33554432) (show -33554432 ≤ x1 ∧ x1 ≤ 33554432 by omega) (show -33554432 ≤ x2 ∧ x2 ≤ 33554432 by omega)
 have m2 := mul_box (k := 33554432) (l := 33554432) (show -33554432 ≤ x3 ∧ x3 ≤ 33554432 by omega) (show -33554432 ≤ x4 ∧ x4 ≤ 33554432 by omega)
 obtain ⟨y1, e5⟩ : ∃ x, x1 * x2 = x := ⟨_, rfl⟩
 obtain ⟨y2, e6⟩ : ∃ x, x3 * x4 = x := ⟨_, rfl⟩
 obtain ⟨z, e7⟩ : ∃ x, y1 - y2 = x := ⟨_, rfl⟩
 have hZ := hid (show z = crsZ (o0, o1) (a0, a1) (b0, b1) by unfold crsZ; dsimp only; rw [e1, e2, e3, e4, e5, e6, e7])
 rw [e5] at m1
 rw [e6] at m2
 have i1 : IntKind.i64.wrap x1 = x1 := by rw [IntKind.wrap_i64]; omega
 have i2 : IntKind.i64.wrap x2 = x2 := by rw [IntKind.wrap_i64]; omega
 have i3 : IntKind.i64.wrap x3 = x3 := by rw [IntKind.wrap_i64]; omega
 have i4 : IntKind.i64.wrap x4 = x4 := by rw [IntKind.wrap_i64]; omega
 have i5 : IntKind.i64.wrap y1 = y1 := by rw [IntKind.wrap_i64]; omega
 have i6 : IntKind.i64.wrap y2 = y2 := by rw [IntKind.wrap_i64]; omega
 have i7 : IntKind.i64.wrap z = z := by rw [IntKind.wrap_i64]; omega
 rw [← hZ.out]
 clear hZ ho ha hb h1 h2 h3 m1 m2
 dsimp only
 go_enter Tryz.func26, Tryz.ntmps26
 go_upto_region 1 with fail
 refine enterR3 (P := fun u => Code.wp _ _ _ _ u) (c0 := [.int .i64 o0, .int .i64 o1]) (c1 := [.int .i64 a0, .int .i64 a1]) (c2 := [.int .i64 b0, .int .i64 b1]) ?_
 intro u HB r0 r1 r2 zn0 zn1 zn2 hsz
 clear hsz zn0 zn1 zn2
 have co0 : (u).cell? ⟨w.heap.size, 0, none⟩ = some (.int .i64 o0) := r0 0 _ rfl
 have co1 : (u).cell? ⟨w.heap.size, 1, none⟩ = some (.int .i64 o1) := r0 1 _ rfl
 have ca0 : (u).cell? ⟨w.heap.size + 1, 0, none⟩ = some (.int .i64 a0) := r1 0 _ rfl
 have ca1 : (u).cell? ⟨w.heap.size + 1, 1, none⟩ = some (.int .i64 a1) := r1 1 _ rfl
 have cb0 : (u).cell? ⟨w.heap.size + 1 + 1, 0, none⟩ = some (.int .i64 b0) := r2 0 _ rfl
 have cb1 : (u).cell? ⟨w.heap.size + 1 + 1, 1, none⟩ = some (.int .i64 b1) := r2 1 _ rfl
 clear r0 r1 r2
 go_wp2
 go_ret
 exact ⟨rfl, HB⟩
set_option maxHeartbeats 1000000 in
theorem Gsquare_g {a b : Int × Int} (ha : inP a = true) (hb : inP b = true) (w : World) : Calls Tryz.prog 29 #[.agg #[.int .i64 a.1, .int .i64 a.2], .agg #[.int .i64 b.1, .int .i64 b.2]] w (RetI w (sqZ a b)) := by
 obtain ⟨a0, a1⟩ := a
 obtain ⟨b0, b1⟩ := b
 have h2 := inP_iff.1 ha
 have h3 := inP_iff.1 hb
 dsimp only at h2 h3
 obtain ⟨x1, e1⟩ : ∃ x, a0 - b0 = x := ⟨_, rfl⟩
 obtain ⟨x2, e2⟩ : ∃ x, a1 - b1 = x := ⟨_, rfl⟩
 have m1 := mul_box (k := 33554432) (l := 33554432) (show -33554432 ≤ x1 ∧ x1 ≤ 33554432 by omega) (show -33554432 ≤ x1 ∧ x1 ≤ 33554432 by omega)
 have m2 := mul_box (k := 33554432) (l := 33554432) (show -33554432 ≤ x2 ∧ x2 ≤ 33554432 by omega) (show -33554432 ≤ x2 ∧ x2 ≤ 33554432 by omega)
 obtain ⟨y1, e5⟩ : ∃ x, x1 * x1 = x := ⟨_, rfl⟩
 obtain ⟨y2, e6⟩ : ∃ x, x2 * x2 = x := ⟨_, rfl⟩
 obtain ⟨z, e7⟩ : ∃ x, y1 + y2 = x := ⟨_, rfl⟩
 have hZ := hid (show z = sqZ (a0, a1) (b0, b1) by unfold sqZ; dsimp only; rw [e1, e2, e5, e6, e7])
 rw [e5] at m1
 rw [e6] at m2
 have i1 : IntKind.i64.wrap x1 = x1 := by rw [IntKind.wrap_i64]; omega
 have i2 : IntKind.i64.wrap x2 = x2 := by rw [IntKind.wrap_i64]; omega
 have i5 : IntKind.i64.wrap y1 = y1 := by rw [IntKind.wrap_i64]; omega
 have i6 : IntKind.i64.wrap y2 = y2 := by rw [IntKind.wrap_i64]; omega
 have i7 : IntKind.i64.wrap z = z := by rw [IntKind.wrap_i64]; omega
 rw [← hZ.out]
 clear hZ ha hb h2 h3 m1 m2
 dsimp only
 go_enter Tryz.func29, Tryz.ntmps29
 go_upto_region 1 with fail
 refine enterR2 (P := fun u => Code.wp _ _ _ _ u) (c0 := [.int .i64 a0, .int .i64 a1]) (c1 := [.int .i64 b0, .int .i64 b1]) ?_
 intro u HB r1 r2 zn1 zn2 hsz
 clear hsz zn1 zn2
 have ca0 : (u).cell? ⟨w.heap.size, 0, none⟩ = some (.int .i64 a0) := r1 0 _ rfl
 have ca1 : (u).cell? ⟨w.heap.size, 1, none⟩ = some (.int .i64 a1) := r1 1 _ rfl
 have cb0 : (u).cell? ⟨w.heap.size + 1, 0, none⟩ = some (.int .i64 b0) := r2 0 _ rfl
 have cb1 : (u).cell? ⟨w.heap.size + 1, 1, none⟩ = some (.int .i64 b1) := r2 1 _ rfl
 clear r1 r2
 go_wp2
 go_ret
 exact ⟨rfl, HB⟩
set_option maxHeartbeats 1000000 in
theorem Rfar_g {a b : Int × Int} (ha : inP a = true) (hb : inP b = true) (w : World) : Calls Tryz.prog 53 #[.agg #[.int .i64 a.1, .int .i64 a.2], .agg #[.int .i64 b.1, .int .i64 b.2]] w (RetI w (sqZ a b)) := by
 obtain ⟨a0, a1⟩ := a
 obtain ⟨b0, b1⟩ := b
 have h2 := inP_iff.1 ha
 have h3 := inP_iff.1 hb
 dsimp only at h2 h3
 obtain ⟨x1, e1⟩ : ∃ x, a0 - b0 = x := ⟨_, rfl⟩
 obtain ⟨x2, e2⟩ : ∃ x, a1 - b1 = x := ⟨_, rfl⟩
 have m1 := mul_box (k := 33554432) (l := 33554432) (show -33554432 ≤ x1 ∧ x1 ≤ 33554432 by omega) (show -33554432 ≤ x1 ∧ x1 ≤ 33554432 by omega)
 have m2 := mul_box (k := 33554432) (l := 33554432) (show -33554432 ≤ x2 ∧ x2 ≤ 33554432 by omega) (show -33554432 ≤ x2 ∧ x2 ≤ 33554432 by omega)
 obtain ⟨y1, e5⟩ : ∃ x, x1 * x1 = x := ⟨_, rfl⟩
 obtain ⟨y2, e6⟩ : ∃ x, x2 * x2 = x := ⟨_, rfl⟩
 obtain ⟨z, e7⟩ : ∃ x, y1 + y2 = x := ⟨_, rfl⟩
 have hZ := hid (show z = sqZ (a0, a1) (b0, b1) by unfold sqZ; dsimp only; rw [e1, e2, e5, e6, e7])
 rw [e5] at m1
 rw [e6] at m2
 have i1 : IntKind.i64.wrap x1 = x1 := by rw [IntKind.wrap_i64]; omega
 have i2 : IntKind.i64.wrap x2 = x2 := by rw [IntKind.wrap_i64]; omega
 have i5 : IntKind.i64.wrap y1 = y1 := by rw [IntKind.wrap_i64]; omega
 have i6 : IntKind.i64.wrap y2 = y2 := by rw [IntKind.wrap_i64]; omega
 have i7 : IntKind.i64.wrap z = z := by rw [IntKind.wrap_i64]; omega
 rw [← hZ.out]
 clear hZ ha hb h2 h3 m1 m2
 dsimp only
 go_enter Tryz.func53, Tryz.ntmps53
 go_upto_region 1 with fail
 refine enterR2 (P := fun u => Code.wp _ _ _ _ u) (c0 := [.int .i64 a0, .int .i64 a1]) (c1 := [.int .i64 b0, .int .i64 b1]) ?_
 intro u HB r1 r2 zn1 zn2 hsz
 clear hsz zn1 zn2
 have ca0 : (u).cell? ⟨w.heap.size, 0, none⟩ = some (.int .i64 a0) := r1 0 _ rfl
 have ca1 : (u).cell? ⟨w.heap.size, 1, none⟩ = some (.int .i64 a1) := r1 1 _ rfl
 have cb0 : (u).cell? ⟨w.heap.size + 1, 0, none⟩ = some (.int .i64 b0) := r2 0 _ rfl
 have cb1 : (u).cell? ⟨w.heap.size + 1, 1, none⟩ = some (.int .i64 b1) := r2 1 _ rfl
 clear r1 r2
 go_wp2
 go_ret
 exact ⟨rfl, HB⟩
end Go.Proofs.YtglailcfgcdagaaGreat
/- Geometry: greatest common divisors, in the package and in the reference. Conditions: numbers of at most 25 bits. -/
namespace Go.Proofs.YtglailcfgcdagaaGreat
open Go.RowKit Big
set_option maxHeartbeats 1000000 in
theorem Ggcd_g {p q : Int} (hp : -33554432 ≤ p ∧ p ≤ 33554432) (hq : -33554432 ≤ q ∧ q ≤ 33554432) (w : World) : Calls Tryz.prog 28 #[.int .i64 p, .int .i64 q] w (RetI w (Int.gcd p q)) := by
 obtain ⟨G, hG⟩ : ∃ G, Int.gcd p q = G := ⟨_, rfl⟩
 rw [hG]
 replace hG := hid hG
 go_enter Tryz.func28, Tryz.ntmps28
 go_wp2
 go_loopw [0, 1] (fun s0 s1 wr => ∃ x y : Int, s0 = .int .i64 x ∧ s1 = .int .i64 y ∧ (-33554432 ≤ x ∧ x ≤ 33554432) ∧ (-33554432 ≤ y ∧ y ≤ 33554432) ∧ Hid (Int.gcd x y = G) ∧ Below w.heap.size w wr) (fun _ s1 _ => (intOf s1).natAbs)
 case atStart => exact ⟨p, q, rfl, rfl, hp, hq, hG, Below.refl _ _⟩
 case round =>
  obtain ⟨x, y, rfl, rfl, hx, hy, hg, hB⟩ := hrel
  clear hG hp hq
  by_cases h0 : y = 0
  ·subst h0
   have hm := hid (show max x (-x) = (G : Int) by rw [← igcd_nil x, hg.out])
   have i1 : IntKind.i64.wrap (-x) = -x := by rw [IntKind.wrap_i64]; omega
   clear hg hx hy
   go_wp2
   go_ret
   exact ⟨by rw [hm.out]; rfl, hB⟩
  ·have hl := tmod_lt_abs x h0
   obtain ⟨z, hz⟩ : ∃ z, x.tmod y = z := ⟨_, rfl⟩
   rw [hz] at hl
   have i1 : IntKind.i64.wrap z = z := by rw [IntKind.wrap_i64]; omega
   have hg2 := hid (show Int.gcd y z = G by rw [← hz, igcd_step, hg.out])
   have hres := hid (show (-33554432 ≤ z ∧ z ≤ 33554432) ∧ z.natAbs < y.natAbs by omega)
   clear hg hl hx
   go_upto_region 2 with fail
   go_quiet (fail)
   have hv : Below wr.heap.size wr (wr.drewN nq) := below_drewN (Below.refl _ _) _
   generalize wr.drewN nq = wz at hv ⊢
   replace hB := bel_step hB hv
   clear hv
   go_wp2
   go_roundw
   case rel => exact ⟨y, z, rfl, rfl, hy, hres.out.1, hg2, hB⟩
   case measure => simp only [intOf]; exact hres.out.2
end Go.Proofs.YtglailcfgcdagaaGreat
/- Geometry: lists of points in memory; the check of points, in the package and in the reference. Conditions: none. -/
namespace Go.Proofs.YtglailcfgcdagaaGreat
open Go.RowKit Big
/-- a slice of points: address A, capacity c, the points l -/
structure Pb (w : World) (A : Option Addr) (c : Nat) (l : List (Int × Int)) : Prop where
 cap : l.length ≤ c
 max : c ≤ 9223372036854775807
 rd : 0 < l.length → ∃ b o, A = some ⟨b, o, none⟩ ∧ b < w.heap.size ∧ ∀ j (h : j < l.length), w.cell? ⟨b, o + j * 2, none⟩ = some (.int .i64 l[j].1) ∧ w.cell? ⟨b, o + j * 2 + 1, none⟩ = some (.int .i64 l[j].2)
theorem Pb.below {w w' : World} {A : Option Addr} {c : Nat} {l : List (Int × Int)} (h : Pb w A c l) (hb : Below w.heap.size w w') : Pb w' A c l :=
 ⟨h.cap, h.max, fun hl => by
  obtain ⟨b, o, e, hlt, hc⟩ := h.rd hl
  exact ⟨b, o, e, Nat.lt_of_lt_of_le hlt hb.size, fun j hj => ⟨(hb.cell (p := ⟨b, o + j * 2, none⟩) hlt).trans (hc j hj).1, (hb.cell (p := ⟨b, o + j * 2 + 1, none⟩) hlt).trans (hc j hj).2⟩⟩⟩
theorem Pb.at_ {w : World} {A : Option Addr} {c : Nat} {l : List (Int × Int)} (h : Pb w A c l) {k : Nat} (hk : k < l.length) : ∃ b o, A = some ⟨b, o, none⟩ ∧ w.cell? ⟨b, o + k * 2, none⟩ = some (.int .i64 l[k].1) ∧ w.cell? ⟨b, o + k * 2 + 1, none⟩ = some (.int .i64 l[k].2) := by
 obtain ⟨b, o, e, _, hc⟩ := h.rd (by omega)
 exact ⟨b, o, e, hc k hk⟩
theorem Pb.nil (w : World) : Pb w none 0 [] := ⟨Nat.le_refl _, by omega, fun h => by simp at h⟩
set_option maxHeartbeats 1000000 in
theorem Gcheck_g (l : List (Int × Int)) (A : Option Addr) (c : Nat) {w : World} (hl : Pb w A c l) : Calls Tryz.prog 18 #[.slice A l.length c] w (RetI w (chkP l)) := by
 obtain ⟨k, hk⟩ : ∃ k, chkP l = k := ⟨_, rfl⟩
 rw [hk]
 have h4 := hid fun (h : 4096 < l.length) => (show k = 4 by rw [← hk]; unfold chkP; rw [if_pos h])
 have h3 := hid fun (h : ¬ 4096 < l.length) (h' : ∃ p ∈ l, inP p = false) => (show k = 3 by
  rw [← hk]; unfold chkP; rw [if_neg h, if_neg]
  obtain ⟨p, hp, hq⟩ := h'
  intro e
  have := List.all_eq_true.1 e p hp
  rw [hq] at this; cases this)
 have h0 := hid fun (h : ¬ 4096 < l.length) (h' : ∀ p ∈ l, inP p = true) => (show k = 0 by
  rw [← hk]; unfold chkP; rw [if_neg h, if_pos]
  exact List.all_eq_true.2 h')
 obtain ⟨n, hn⟩ : ∃ n, n = l.length := ⟨_, rfl⟩
 have hM := hid fun (j : Nat) (hj : j < n) (W : World) (hb : Below w.heap.size w W) => (hl.below hb).at_ (k := j) (by omega)
 clear hk hl
 rw [← hn] at h4 h3 h0 ⊢
 replace hn := hid hn
 go_enter Tryz.func18, Tryz.ntmps18
 by_cases g : 4096 < n
 ·have gi : (4096 : Int) < (n : Int) := by omega
  obtain rfl := h4.out g
  clear h4 h3 h0 hM
  go_wp2
  go_ret
  exact ⟨rfl, Below.refl _ _⟩
 ·have gi : ¬ (4096 : Int) < (n : Int) := by omega
  go_wp2
  go_loopw [10] (fun s10 wr => ∃ i : Nat, s10 = .int .i64 i ∧ i ≤ n ∧ Hid (∀ j (h : j < l.length), j < i → inP l[j] = true) ∧ Below w.heap.size w wr) (fun s10 _ => n - (intOf s10).toNat)
  case atStart => exact ⟨0, rfl, by omega, fun j _ h => by omega, Below.refl _ _⟩
  case round =>
   obtain ⟨i, rfl, hi, hA, hB⟩ := hrel
   by_cases hin : i < n
   ·have hii : (i : Int) < (n : Int) := by omega
    have hil : i < l.length := by have := hn.out; omega
    have hM2 := hM.out i hin wr hB
    have hA2 := hid fun (h : inP l[i] = true) (j : Nat) (hj : j < l.length) (hji : j < i + 1) => (show inP l[j] = true by
     by_cases e : j = i
     ·subst e; exact h
     ·exact hA.out j hj (by omega))
    have hmem := hid (List.getElem_mem hil)
    generalize l[i] = p at *
    obtain ⟨x, y⟩ := p
    obtain ⟨b, o, hA3, c0, c1⟩ := hM2
    clear hM
    subst hA3
    dsimp only at c0 c1
    clear hA hil
    go_upto_region 6 with fail
    refine enterR (P := fun u => Code.wp _ _ _ _ u) (c := [.int .i64 x, .int .i64 y]) ?_
    intro v hv r4 zn4 hsz
    have d0 : v.cell? ⟨wr.heap.size, 0, none⟩ = some (.int .i64 x) := r4 0 _ rfl
    have d1 : v.cell? ⟨wr.heap.size, 1, none⟩ = some (.int .i64 y) := r4 1 _ rfl
    replace hB := bel_step hB hv
    clear hsz r4 zn4 hv c0 c1
    by_cases g1 : 16777216 < max x y
    ·obtain rfl := h3.out g ⟨(x, y), hmem.out, by unfold inP; rw [decide_eq_false]; dsimp only; omega⟩
     clear h3 h4 h0 hA2 hmem
     go_wp2
     go_ret
     exact ⟨rfl, hB⟩
    ·by_cases g2 : min x y < -16777216
     ·obtain rfl := h3.out g ⟨(x, y), hmem.out, by unfold inP; rw [decide_eq_false]; dsimp only; omega⟩
      clear h3 h4 h0 hA2 hmem
      go_wp2
      go_ret
      exact ⟨rfl, hB⟩
     ·have hA4 := hid (hA2.out (by unfold inP; rw [decide_eq_true]; dsimp only; omega))
      clear h3 h4 h0 hA2 hmem
      go_wp2
      go_roundw
      case rel => exact ⟨i + 1, by go_num, by omega, hA4, hB⟩
      case measure => simp [intOf]; omega
   ·obtain rfl := h0.out g (fun p hp => by
     obtain ⟨j, hj, e⟩ := List.getElem_of_mem hp
     rw [← e]; exact hA.out j hj (by have := hn.out; omega))
    have hii : ¬ (i : Int) < (n : Int) := by omega
    clear h3 h4 h0 hA hM
    go_wp2
    go_ret
    exact ⟨rfl, hB⟩
set_option maxHeartbeats 1000000 in
theorem Rright_g (l : List (Int × Int)) (A : Option Addr) (c : Nat) {w : World} (hl : Pb w A c l) : Calls Tryz.prog 24 #[.slice A l.length c] w (RetI w (chkP l)) := by
 obtain ⟨k, hk⟩ : ∃ k, chkP l = k := ⟨_, rfl⟩
 rw [hk]
 have h4 := hid fun (h : 4096 < l.length) => (show k = 4 by rw [← hk]; unfold chkP; rw [if_pos h])
 have h3 := hid fun (h : ¬ 4096 < l.length) (h' : ∃ p ∈ l, inP p = false) => (show k = 3 by
  rw [← hk]; unfold chkP; rw [if_neg h, if_neg]
  obtain ⟨p, hp, hq⟩ := h'
  intro e
  have := List.all_eq_true.1 e p hp
  rw [hq] at this; cases this)
 have h0 := hid fun (h : ¬ 4096 < l.length) (h' : ∀ p ∈ l, inP p = true) => (show k = 0 by
  rw [← hk]; unfold chkP; rw [if_neg h, if_pos]
  exact List.all_eq_true.2 h')
 obtain ⟨n, hn⟩ : ∃ n, n = l.length := ⟨_, rfl⟩
 have hM := hid fun (j : Nat) (hj : j < n) (W : World) (hb : Below w.heap.size w W) => (hl.below hb).at_ (k := j) (by omega)
 clear hk hl
 rw [← hn] at h4 h3 h0 ⊢
 replace hn := hid hn
 go_enter Tryz.func24, Tryz.ntmps24
 by_cases g : 4096 < n
 ·have gi : (4096 : Int) < (n : Int) := by omega
  obtain rfl := h4.out g
  clear h4 h3 h0 hM
  go_wp2
  go_ret
  exact ⟨rfl, Below.refl _ _⟩
 ·have gi : ¬ (4096 : Int) < (n : Int) := by omega
  go_wp2
  go_loopw [3] (fun s3 wr => ∃ i : Nat, s3 = .int .i64 i ∧ i ≤ n ∧ Hid (∀ j (h : j < l.length), j < i → inP l[j] = true) ∧ Below w.heap.size w wr) (fun s3 _ => n - (intOf s3).toNat)
  case atStart => exact ⟨0, rfl, by omega, fun j _ h => by omega, Below.refl _ _⟩
  case round =>
   obtain ⟨i, rfl, hi, hA, hB⟩ := hrel
   by_cases hin : i < n
   ·have hii : (i : Int) < (n : Int) := by omega
    have hil : i < l.length := by have := hn.out; omega
    have hM2 := hM.out i hin wr hB
    have hA2 := hid fun (h : inP l[i] = true) (j : Nat) (hj : j < l.length) (hji : j < i + 1) => (show inP l[j] = true by
     by_cases e : j = i
     ·subst e; exact h
     ·exact hA.out j hj (by omega))
    have hmem := hid (List.getElem_mem hil)
    generalize l[i] = p at *
    obtain ⟨x, y⟩ := p
    obtain ⟨b, o, hA3, c0, c1⟩ := hM2
    clear hM
    subst hA3
    dsimp only at c0 c1
    clear hA hil
    by_cases g1 : x < -16777216
    ·skip
     have hx := hid (show inP (x, y) = false by unfold inP; rw [decide_eq_false]; dsimp only; omega)
     obtain rfl := h3.out g ⟨(x, y), hmem.out, hx.out⟩
     clear h3 h4 h0 hA2 hmem hx
     go_wp2
     go_ret
     exact ⟨rfl, hB⟩
    ·by_cases g2 : 16777216 < x
     ·skip
      have hx := hid (show inP (x, y) = false by unfold inP; rw [decide_eq_false]; dsimp only; omega)
      obtain rfl := h3.out g ⟨(x, y), hmem.out, hx.out⟩
      clear h3 h4 h0 hA2 hmem hx
      go_wp2
      go_ret
      exact ⟨rfl, hB⟩
     ·by_cases g3 : y < -16777216
      ·skip
       have hx := hid (show inP (x, y) = false by unfold inP; rw [decide_eq_false]; dsimp only; omega)
       obtain rfl := h3.out g ⟨(x, y), hmem.out, hx.out⟩
       clear h3 h4 h0 hA2 hmem hx
       go_wp2
       go_ret
       exact ⟨rfl, hB⟩
      ·by_cases g4 : 16777216 < y
       ·skip
        have hx := hid (show inP (x, y) = false by unfold inP; rw [decide_eq_false]; dsimp only; omega)
        obtain rfl := h3.out g ⟨(x, y), hmem.out, hx.out⟩
        clear h3 h4 h0 hA2 hmem hx
        go_wp2
        go_ret
        exact ⟨rfl, hB⟩
       ·have hA4 := hid (hA2.out (by unfold inP; rw [decide_eq_true]; dsimp only; omega))
        clear h3 h4 h0 hA2 hmem
        go_wp2
        go_roundw
        case rel => exact ⟨i + 1, by go_num, by omega, hA4, hB⟩
        case measure => simp [intOf]; omega
   ·obtain rfl := h0.out g (fun p hp => by
     obtain ⟨j, hj, e⟩ := List.getElem_of_mem hp
     rw [← e]; exact hA.out j hj (by have := hn.out; omega))
    have hii : ¬ (i : Int) < (n : Int) := by omega
    clear h3 h4 h0 hA hM
    go_wp2
    go_ret
    exact ⟨rfl, hB⟩
end Go.Proofs.YtglailcfgcdagaaGreat
/- Geometry: Cross, in the package and in the reference. Conditions: none. -/
namespace Go.Proofs.YtglailcfgcdagaaGreat
open Go.RowKit Big
theorem Pb.new3 (u : World) (o a b : Int × Int) (t : TypeId) : Pb (u.alloc (.cells #[.int .i64 o.1, .int .i64 o.2, .int .i64 a.1, .int .i64 a.2, .int .i64 b.1, .int .i64 b.2] t)) (some ⟨u.heap.size, 0, none⟩) 3 [o, a, b] := by
 have h := rng_alloc (w := u) (cs := [.int .i64 o.1, .int .i64 o.2, .int .i64 a.1, .int .i64 a.2, .int .i64 b.1, .int .i64 b.2]) (t := t)
 refine ⟨by simp, by omega, fun _ => ⟨u.heap.size, 0, rfl, by simp, fun j hj => ?_⟩⟩
 match j, hj with
 | 0, _ => exact ⟨h 0 _ rfl, h 1 _ rfl⟩
 | 1, _ => exact ⟨h 2 _ rfl, h 3 _ rfl⟩
 | 2, _ => exact ⟨h 4 _ rfl, h 5 _ rfl⟩
theorem Pb.new2 (u : World) (o a : Int × Int) (t : TypeId) : Pb (u.alloc (.cells #[.int .i64 o.1, .int .i64 o.2, .int .i64 a.1, .int .i64 a.2] t)) (some ⟨u.heap.size, 0, none⟩) 2 [o, a] := by
 have h := rng_alloc (w := u) (cs := [.int .i64 o.1, .int .i64 o.2, .int .i64 a.1, .int .i64 a.2]) (t := t)
 refine ⟨by simp, by omega, fun _ => ⟨u.heap.size, 0, rfl, by simp, fun j hj => ?_⟩⟩
 match j, hj with
 | 0, _ => exact ⟨h 0 _ rfl, h 1 _ rfl⟩
 | 1, _ => exact ⟨h 2 _ rfl, h 3 _ rfl⟩
/-- two numbers -/
def RetII (w : World) (q : Int × Int) (e : Ending) (w' : World) : Prop := e = .returned (.tuple #[.int .i64 q.1, .int .i64 q.2]) ∧ Below w.heap.size w w'
theorem ok3 {o a b : Int × Int} : ∃ t : Bool, (t = true → inP o = true ∧ inP a = true ∧ inP b = true ∧ chkP [o, a, b] = 0) ∧ (t = false → chkP [o, a, b] = 3) ∧ (inP o ∧ inP a ∧ inP b) = (t = true) := by
 refine ⟨inP o && inP a && inP b, fun h => ?_, fun h => ?_, by simp [and_assoc]⟩
 ·simp only [Bool.and_eq_true] at h
  exact ⟨h.1.1, h.1.2, h.2, by rw [chkP_3, if_pos ⟨h.1.1, h.1.2, h.2⟩]⟩
 ·rw [chkP_3, if_neg]
  intro h'
  rw [h'.1, h'.2.1, h'.2.2] at h
  cases h
set_option maxHeartbeats 1000000 in
theorem GCross_g (o a b : Int × Int) (w : World) : Calls Tryz.prog 13 #[.agg #[.int .i64 o.1, .int .i64 o.2], .agg #[.int .i64 a.1, .int .i64 a.2], .agg #[.int .i64 b.1, .int .i64 b.2]] w (RetII w (crsE o a b)) := by
 obtain ⟨t, hT, hF, _⟩ := ok3 (o := o) (a := a) (b := b)
 obtain ⟨k, hk⟩ : ∃ k, chkP [o, a, b] = k := ⟨_, rfl⟩
 have HK := hid fun (u : World) (t : TypeId) => (show Calls Tryz.prog 18 #[.slice (some ⟨u.heap.size, 0, none⟩) 3 3] (u.alloc (.cells #[.int .i64 o.1, .int .i64 o.2, .int .i64 a.1, .int .i64 a.2, .int .i64 b.1, .int .i64 b.2] t)) (RetI (u.alloc (.cells #[.int .i64 o.1, .int .i64 o.2, .int .i64 a.1, .int .i64 a.2, .int .i64 b.1, .int .i64 b.2] t)) k) from by
  have := Gcheck_g [o, a, b] _ _ (Pb.new3 u o a b t)
  rwa [hk] at this)
 have HX := hid fun (ht : t = true) (W : World) => Gcross_g (hT ht).1 (hT ht).2.1 (hT ht).2.2.1 W
 have hQ1 := hid fun (h : t = true) => (show k = 0 ∧ crsE o a b = (crsZ o a b, 0) from ⟨by rw [← hk]; exact (hT h).2.2.2, by unfold crsE; rw [(hT h).2.2.2]; rfl⟩)
 have hQ0 := hid fun (h : t = false) => (show k = 3 ∧ crsE o a b = (0, 3) from ⟨by rw [← hk]; exact hF h, by unfold crsE; rw [hF h]; rfl⟩)
 clear hT hF hk
 generalize crsE o a b = Q at *
 generalize crsZ o a b = Z at *
 obtain ⟨o0, o1⟩ := o
 obtain ⟨a0, a1⟩ := a
 obtain ⟨b0, b1⟩ := b
 dsimp only at HK HX ⊢
 go_enter Tryz.func13, Tryz.ntmps13
 go_upto_region 1 with fail
 refine enterR3 (P := fun u => Code.wp _ _ _ _ u) (c0 := [.int .i64 o0, .int .i64 o1]) (c1 := [.int .i64 a0, .int .i64 a1]) (c2 := [.int .i64 b0, .int .i64 b1]) ?_
 intro u HB r0 r1 r2 zn0 zn1 zn2 hsz
 clear hsz zn0 zn1 zn2
 have co0 : (u).cell? ⟨w.heap.size, 0, none⟩ = some (.int .i64 o0) := r0 0 _ rfl
 have co1 : (u).cell? ⟨w.heap.size, 1, none⟩ = some (.int .i64 o1) := r0 1 _ rfl
 have ca0 : (u).cell? ⟨w.heap.size + 1, 0, none⟩ = some (.int .i64 a0) := r1 0 _ rfl
 have ca1 : (u).cell? ⟨w.heap.size + 1, 1, none⟩ = some (.int .i64 a1) := r1 1 _ rfl
 have cb0 : (u).cell? ⟨w.heap.size + 1 + 1, 0, none⟩ = some (.int .i64 b0) := r2 0 _ rfl
 have cb1 : (u).cell? ⟨w.heap.size + 1 + 1, 1, none⟩ = some (.int .i64 b1) := r2 1 _ rfl
 clear r0 r1 r2
 go_wp2_with fail
 refine (HK.out u _).mono ?_
 rintro e v ⟨rfl, hv⟩
 have hv := bel_step ((Below.refl u.heap.size u).alloc (Nat.le_refl _) _) hv
 have HB := bel_step HB hv
 have co0 := keep_cell hv co0
 have co1 := keep_cell hv co1
 have ca0 := keep_cell hv ca0
 have ca1 := keep_cell hv ca1
 have cb0 := keep_cell hv cb0
 have cb1 := keep_cell hv cb1
 clear HK hv
 cases t
 ·obtain ⟨rfl, rfl⟩ := hQ0.out rfl
  clear hQ0 hQ1 HX
  go_wp2
  go_ret2
  exact ⟨rfl, HB⟩
 ·obtain ⟨rfl, rfl⟩ := hQ1.out rfl
  go_wp2_with fail
  refine (HX.out (by first | rfl | trivial) v).mono ?_
  rintro e v2 ⟨rfl, hv⟩
  have HB := bel_step HB hv
  have co0 := keep_cell hv co0
  have co1 := keep_cell hv co1
  have ca0 := keep_cell hv ca0
  have ca1 := keep_cell hv ca1
  have cb0 := keep_cell hv cb0
  have cb1 := keep_cell hv cb1
  clear hv HX hQ0 hQ1
  go_wp2
  go_ret2
  exact ⟨rfl, HB⟩
end Go.Proofs.YtglailcfgcdagaaGreat
