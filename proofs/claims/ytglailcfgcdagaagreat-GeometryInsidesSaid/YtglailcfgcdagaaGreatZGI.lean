/- Geometry: boxes that are empty, in the package and in the reference. Conditions: none. -/
import Derived.Test.YtglailcfgcdagaaGreatZGA
import Derived.Test.YtglailcfgcdagaaGreatZYO
import Derived.Test.YtglailcfgcdagaaGreatZYE
set_option linter.unusedVariables false
set_option linter.unusedSimpArgs false
namespace Go.Proofs.YtglailcfgcdagaaGreat
open Go.RowKit Big
theorem run_max4 {P : Program} (w : World) (ts : Array TypeId) (t : TypeId) (a b c d : Int) :
  (Builtin.max_ ts t #[.int .i64 a, .int .i64 b, .int .i64 c, .int .i64 d]).run P w = .ok (.int .i64 (max (max (max a b) c) d)) w := by
 have h : ∀ (x y : Int), (Builtin.max2 (.int .i64 x) (.int .i64 y)).run P w = .ok (.int .i64 (max x y)) w := fun x y => by
  simp only [Builtin.max2]
  split <;> simp <;> omega
 simp [Builtin.max_, Sem.run_bind, h]
theorem empZ_iff {b : Bx} : empZ b = true ↔ (b.w < 1 ∨ b.h < 1 ∨ b.x < -1073741824 ∨ 1073741824 < b.x ∨ b.y < -1073741824 ∨ 1073741824 < b.y ∨ 1073741824 < b.w ∨ 1073741824 < b.h) := by unfold empZ; simp
set_option maxHeartbeats 1000000 in
theorem Gempty_g (b : Bx) (w : World) : Calls Tryz.prog 32 #[.agg #[.int .i64 b.x, .int .i64 b.y, .int .i64 b.w, .int .i64 b.h]] w (RetB w (empZ b)) := by
 obtain ⟨t, ht⟩ : ∃ t, empZ b = t := ⟨_, rfl⟩
 have h1 := hid fun (h : b.w < 1 ∨ b.h < 1 ∨ b.x < -1073741824 ∨ 1073741824 < b.x ∨ b.y < -1073741824 ∨ 1073741824 < b.y ∨ 1073741824 < b.w ∨ 1073741824 < b.h) => (show t = true by rw [← ht]; exact empZ_iff.2 h)
 have h0 := hid fun (h : ¬ (b.w < 1 ∨ b.h < 1 ∨ b.x < -1073741824 ∨ 1073741824 < b.x ∨ b.y < -1073741824 ∨ 1073741824 < b.y ∨ 1073741824 < b.w ∨ 1073741824 < b.h)) => (show t = false by rw [← ht]; exact Bool.eq_false_iff.2 fun e => h (empZ_iff.1 e))
 rw [ht]
 clear ht
 go_enter Tryz.func32, Tryz.ntmps32
 go_upto_region 1 with fail
 refine enterR (P := fun u => Code.wp _ _ _ _ u) (c := [.int .i64 b.x, .int .i64 b.y, .int .i64 b.w, .int .i64 b.h]) ?_
 intro u HB r0 zn0 hsz
 clear hsz zn0
 have c0 : (u).cell? ⟨w.heap.size, 0, none⟩ = some (.int .i64 b.x) := r0 0 _ rfl
 have c1 : (u).cell? ⟨w.heap.size, 1, none⟩ = some (.int .i64 b.y) := r0 1 _ rfl
 have c2 : (u).cell? ⟨w.heap.size, 2, none⟩ = some (.int .i64 b.w) := r0 2 _ rfl
 have c3 : (u).cell? ⟨w.heap.size, 3, none⟩ = some (.int .i64 b.h) := r0 3 _ rfl
 clear r0
 obtain ⟨x, y, bw, bh⟩ := b
 dsimp only at *
 have hmx := fun (W : World) => run_max4 (P := Tryz.prog) W #[3, 3, 3, 3] 3 x y bw bh
 by_cases g1 : bw < 1
 ·obtain rfl := h1.out (by omega)
  clear h1 h0
  go_wp2
  go_ret
  exact ⟨rfl, HB⟩
 ·by_cases g2 : bh < 1
  ·obtain rfl := h1.out (by omega)
   clear h1 h0
   go_wp2
   go_ret
   exact ⟨rfl, HB⟩
  ·by_cases g3 : 1073741824 < max x (max y (max bw bh))
   ·obtain rfl := h1.out (by omega)
    clear h1 h0
    go_wp2
    go_ret
    exact ⟨rfl, HB⟩
   ·by_cases g4 : min x y < -1073741824
    ·obtain rfl := h1.out (by omega)
     clear h1 h0
     go_wp2
     go_ret
     exact ⟨rfl, HB⟩
    ·obtain rfl := h0.out (by omega)
     clear h1 h0
     go_wp2
     go_ret
     exact ⟨rfl, HB⟩
theorem Gbetween_g (l t r b : Int) (h1 : IntKind.i64.wrap (r - l) = r - l) (h2 : IntKind.i64.wrap (b - t) = b - t) (w : World) : Calls Tryz.prog 33 #[.int .i64 l, .int .i64 t, .int .i64 r, .int .i64 b] w fun e w' => e = .returned (.agg #[.int .i64 (btwZ l t r b).x, .int .i64 (btwZ l t r b).y, .int .i64 (btwZ l t r b).w, .int .i64 (btwZ l t r b).h]) ∧ Below w.heap.size w w' := by
 obtain ⟨p, hp⟩ : ∃ p, r - l = p := ⟨_, rfl⟩
 obtain ⟨q, hq⟩ : ∃ q, b - t = q := ⟨_, rfl⟩
 have hQ := hid (show btwZ l t r b = ⟨l, t, p, q⟩ by rw [← hp, ← hq]; rfl)
 rw [hp] at h1
 rw [hq] at h2
 go_enter Tryz.func33, Tryz.ntmps33
 go_upto_region 1 with fail
 refine enterR (P := fun u => Code.wp _ _ _ _ u) (c := [.int .i64 0, .int .i64 0, .int .i64 0, .int .i64 0]) ?_
 intro u HB r0 zn0 hsz
 have c0 : u.cell? ⟨w.heap.size, 0, none⟩ = some (.int .i64 0) := r0 0 _ rfl
 have c1 : u.cell? ⟨w.heap.size, 1, none⟩ = some (.int .i64 0) := r0 1 _ rfl
 have c2 : u.cell? ⟨w.heap.size, 2, none⟩ = some (.int .i64 0) := r0 2 _ rfl
 have c3 : u.cell? ⟨w.heap.size, 3, none⟩ = some (.int .i64 0) := r0 3 _ rfl
 have ltk := cell_lt c0
 have fk := zn0.fr
 have HBf := hid (below_set (below_set (below_set (below_set HB (Nat.le_refl _) 0 (.int .i64 l)) (Nat.le_refl _) 1 (.int .i64 t)) (Nat.le_refl _) 2 (.int .i64 p)) (Nat.le_refl _) 3 (.int .i64 q))
 clear r0 zn0 hsz HB
 go_wp2
 refine bodyPost_ret (v := .agg #[.int .i64 (⟨l, t, p, q⟩ : Bx).x, .int .i64 (⟨l, t, p, q⟩ : Bx).y, .int .i64 (⟨l, t, p, q⟩ : Bx).w, .int .i64 (⟨l, t, p, q⟩ : Bx).h]) ?_ rfl ?_
 ·simp [results, Tryz.results33, go_sem, c0, c1, c2, c3]
 ·rw [hQ.out]
  exact ⟨rfl, HBf.out⟩
end Go.Proofs.YtglailcfgcdagaaGreat
/- Geometry: Overlap and Union, in the package and in the reference. Conditions: none. -/
namespace Go.Proofs.YtglailcfgcdagaaGreat
open Go.RowKit Big
def RetXB (w : World) (q : Bx × Bool) (e : Ending) (w' : World) : Prop := e = .returned (.tuple #[.agg #[.int .i64 q.1.x, .int .i64 q.1.y, .int .i64 q.1.w, .int .i64 q.1.h], .bool q.2]) ∧ Below w.heap.size w w'
theorem emp_no {b : Bx} (h : empZ b = false) : 1 ≤ b.w ∧ 1 ≤ b.h ∧ -1073741824 ≤ b.x ∧ b.x ≤ 1073741824 ∧ -1073741824 ≤ b.y ∧ b.y ≤ 1073741824 ∧ b.w ≤ 1073741824 ∧ b.h ≤ 1073741824 := by
 have h' : ¬ (b.w < 1 ∨ b.h < 1 ∨ b.x < -1073741824 ∨ 1073741824 < b.x ∨ b.y < -1073741824 ∨ 1073741824 < b.y ∨ 1073741824 < b.w ∨ 1073741824 < b.h) := fun e => by rw [empZ_iff.2 e] at h; cases h
 omega
theorem ovl_cases (a b : Bx) : ∃ (ta tb : Bool) (Q : Bx × Bool), empZ a = ta ∧ empZ b = tb ∧ ovlE a b = Q ∧ (ta = true ∨ tb = true → Q = (noX, false)) ∧
  (ta = false → tb = false → ∃ l t r q s1 s2 s3 s4 p1 p2 : Int, max a.x b.x = l ∧ max a.y b.y = t ∧ a.x + a.w = s1 ∧ b.x + b.w = s2 ∧ a.y + a.h = s3 ∧ b.y + b.h = s4 ∧ min s1 s2 = r ∧ min s3 s4 = q ∧ r - l = p1 ∧ q - t = p2 ∧
   (-9223372036854775808 ≤ s1 ∧ s1 ≤ 9223372036854775807) ∧ (-9223372036854775808 ≤ s2 ∧ s2 ≤ 9223372036854775807) ∧ (-9223372036854775808 ≤ s3 ∧ s3 ≤ 9223372036854775807) ∧ (-9223372036854775808 ≤ s4 ∧ s4 ≤ 9223372036854775807) ∧
   (-9223372036854775808 ≤ p1 ∧ p1 ≤ 9223372036854775807) ∧ (-9223372036854775808 ≤ p2 ∧ p2 ≤ 9223372036854775807) ∧ Q = if p1 < 1 ∨ p2 < 1 then (noX, false) else (⟨l, t, p1, p2⟩, true)) := by
 refine ⟨_, _, _, rfl, rfl, rfl, fun h => ?_, fun h1 h2 => ⟨_, _, _, _, _, _, _, _, _, _, rfl, rfl, rfl, rfl, rfl, rfl, rfl, rfl, rfl, rfl, ?_⟩⟩
 ·unfold ovlE
  rw [if_pos (by simpa using h)]
 ·have na := emp_no h1
  have nb := emp_no h2
  refine ⟨by omega, by omega, by omega, by omega, by omega, by omega, ?_⟩
  unfold ovlE
  rw [h1, h2]
  rfl
set_option maxHeartbeats 2000000 in
theorem GOverlap_g (a b : Bx) (w : World) : Calls Tryz.prog 14 #[.agg #[.int .i64 a.x, .int .i64 a.y, .int .i64 a.w, .int .i64 a.h], .agg #[.int .i64 b.x, .int .i64 b.y, .int .i64 b.w, .int .i64 b.h]] w (RetXB w (ovlE a b)) := by
 obtain ⟨ta, tb, Q, ea, eb, eQ, hQ, hN⟩ := ovl_cases a b
 have HA := hid fun (W : World) => (show Calls Tryz.prog 32 #[.agg #[.int .i64 a.x, .int .i64 a.y, .int .i64 a.w, .int .i64 a.h]] W (RetB W ta) from by rw [← ea]; exact Gempty_g a W)
 have HC := hid fun (W : World) => (show Calls Tryz.prog 32 #[.agg #[.int .i64 b.x, .int .i64 b.y, .int .i64 b.w, .int .i64 b.h]] W (RetB W tb) from by rw [← eb]; exact Gempty_g b W)
 rw [eQ]
 replace hQ := hid hQ
 replace hN := hid hN
 clear ea eb eQ
 have HBt := hid fun (l t r b : Int) (h1 : IntKind.i64.wrap (r - l) = r - l) (h2 : IntKind.i64.wrap (b - t) = b - t) (W : World) => Gbetween_g l t r b h1 h2 W
 obtain ⟨ax, ay, aw, ah⟩ := a
 obtain ⟨bx, by_, bw, bh⟩ := b
 dsimp only at hN HA HC ⊢
 go_enter Tryz.func14, Tryz.ntmps14
 go_upto_region 1 with fail
 refine enterR3 (P := fun u => Code.wp _ _ _ _ u) (c0 := [.int .i64 ax, .int .i64 ay, .int .i64 aw, .int .i64 ah]) (c1 := [.int .i64 bx, .int .i64 by_, .int .i64 bw, .int .i64 bh]) (c2 := [.int .i64 0, .int .i64 0, .int .i64 0, .int .i64 0]) ?_
 intro u HB r0 r1 rk zn0 zn1 znk hsz
 clear hsz zn0 zn1
 have ca0 : (u).cell? ⟨w.heap.size, 0, none⟩ = some (.int .i64 (⟨ax, ay, aw, ah⟩ : Bx).x) := r0 0 _ rfl
 have ca1 : (u).cell? ⟨w.heap.size, 1, none⟩ = some (.int .i64 (⟨ax, ay, aw, ah⟩ : Bx).y) := r0 1 _ rfl
 have ca2 : (u).cell? ⟨w.heap.size, 2, none⟩ = some (.int .i64 (⟨ax, ay, aw, ah⟩ : Bx).w) := r0 2 _ rfl
 have ca3 : (u).cell? ⟨w.heap.size, 3, none⟩ = some (.int .i64 (⟨ax, ay, aw, ah⟩ : Bx).h) := r0 3 _ rfl
 have cb0 : (u).cell? ⟨w.heap.size + 1, 0, none⟩ = some (.int .i64 (⟨bx, by_, bw, bh⟩ : Bx).x) := r1 0 _ rfl
 have cb1 : (u).cell? ⟨w.heap.size + 1, 1, none⟩ = some (.int .i64 (⟨bx, by_, bw, bh⟩ : Bx).y) := r1 1 _ rfl
 have cb2 : (u).cell? ⟨w.heap.size + 1, 2, none⟩ = some (.int .i64 (⟨bx, by_, bw, bh⟩ : Bx).w) := r1 2 _ rfl
 have cb3 : (u).cell? ⟨w.heap.size + 1, 3, none⟩ = some (.int .i64 (⟨bx, by_, bw, bh⟩ : Bx).h) := r1 3 _ rfl
 dsimp only at ca0 ca1 ca2 ca3 cb0 cb1 cb2 cb3
 clear r0 r1
 have hgk : w.heap.size ≤ w.heap.size + 1 + 1 := by omega
 go_wp2_with fail
 refine (HA.out u).mono ?_
 rintro e v ⟨rfl, hv⟩
 have rk := rng_below rk hv
 have znk := znk.below hv
 have HB := bel_step HB hv
 have ca0 := keep_cell hv ca0
 have ca1 := keep_cell hv ca1
 have ca2 := keep_cell hv ca2
 have ca3 := keep_cell hv ca3
 have cb0 := keep_cell hv cb0
 have cb1 := keep_cell hv cb1
 have cb2 := keep_cell hv cb2
 have cb3 := keep_cell hv cb3
 clear hv HA
 cases ta
 ·go_wp2_with fail
  refine (HC.out v).mono ?_
  rintro e v2 ⟨rfl, hv⟩
  have rk := rng_below rk hv
  have znk := znk.below hv
  have HB := bel_step HB hv
  have ca0 := keep_cell hv ca0
  have ca1 := keep_cell hv ca1
  have ca2 := keep_cell hv ca2
  have ca3 := keep_cell hv ca3
  have cb0 := keep_cell hv cb0
  have cb1 := keep_cell hv cb1
  have cb2 := keep_cell hv cb2
  have cb3 := keep_cell hv cb3
  clear hv HC
  cases tb
  ·obtain ⟨l, t, r, q, s1, s2, s3, s4, p1, p2, e1, e2, e3, e4, e5, e6, e7, e8, e9, e10, b1, b2, b3, b4, b5, b6, hE⟩ := hN.out (by first | rfl | trivial) (by first | rfl | trivial)
   try dsimp only at e1 e2 e3 e4 e5 e6
   replace hE := hid hE
   have i1 : IntKind.i64.wrap s1 = s1 := by rw [IntKind.wrap_i64]; omega
   have i2 : IntKind.i64.wrap s2 = s2 := by rw [IntKind.wrap_i64]; omega
   have i3 : IntKind.i64.wrap s3 = s3 := by rw [IntKind.wrap_i64]; omega
   have i4 : IntKind.i64.wrap s4 = s4 := by rw [IntKind.wrap_i64]; omega
   have i5 : IntKind.i64.wrap p1 = p1 := by rw [IntKind.wrap_i64]; omega
   have i6 : IntKind.i64.wrap p2 = p2 := by rw [IntKind.wrap_i64]; omega
   clear hN b1 b2 b3 b4 b5 b6 hQ
   go_upto_region 3 with fail
   go_wp2_with fail
   have HB1 := HBt.out l t r q (by rw [e9]; exact i5) (by rw [e10]; exact i6) v2
   rw [show btwZ l t r q = ⟨l, t, p1, p2⟩ by unfold btwZ; rw [e9, e10]] at HB1
   dsimp only at HB1
   replace HB1 := hid HB1
   clear HBt e9 e10
   refine HB1.out.mono ?_
   rintro e v3 ⟨rfl, hv⟩
   have rk := rng_below rk hv
   have znk := znk.below hv
   have HB := bel_step HB hv
   clear hv HB1 ca0 ca1 ca2 ca3 cb0 cb1 cb2 cb3 e1 e2 e3 e4 e5 e6 e7 e8 i1 i2 i3 i4 i5 i6
   go_upto_region 4 with fail
   refine enterR (P := fun u => Code.wp _ _ _ _ u) (c := [.int .i64 l, .int .i64 t, .int .i64 p1, .int .i64 p2]) ?_
   intro v4 hv r6 zn6 hsz
   have hl6 := cell_lt (rk 0 _ rfl)
   have rk := rng_below rk hv
   have znk := znk.below hv
   have HB := bel_step HB hv
   clear hsz hv zn6
   obtain ⟨g6, hg6⟩ : ∃ g, v3.heap.size = g := ⟨_, rfl⟩
   rw [hg6] at r6 hl6 ⊢
   have q2 : v4.cell? ⟨g6, 2, none⟩ = some (.int .i64 p1) := r6 2 _ rfl
   have q3 : v4.cell? ⟨g6, 3, none⟩ = some (.int .i64 p2) := r6 3 _ rfl
   by_cases n1 : p1 < 1
   ·have hQ := hid (show (noX, false) = Q by rw [hE.out, if_pos (Or.inl n1)])
    clear r6 hE
    have k0 := rk 0 _ rfl
    have k1 := rk 1 _ rfl
    have k2 := rk 2 _ rfl
    have k3 := rk 3 _ rfl
    have ltk := cell_lt k0
    have fk := znk.fr
    have HBf := hid (below_set (below_set (below_set (below_set HB hgk 0 (.int .i64 0)) hgk 1 (.int .i64 0)) hgk 2 (.int .i64 0)) hgk 3 (.int .i64 0))
    clear rk znk HB hgk
    go_wp2
    refine bodyPost_ret (v := .tuple #[.agg #[.int .i64 noX.x, .int .i64 noX.y, .int .i64 noX.w, .int .i64 noX.h], .bool false]) ?_ rfl ?_
    ·simp [results, Tryz.results14, go_sem, k0, k1, k2, k3, noX]
    ·exact ⟨by first | rfl | (rw [← hQ.out]), HBf.out⟩
   ·by_cases n2 : p2 < 1
    ·have hQ := hid (show (noX, false) = Q by rw [hE.out, if_pos (Or.inr n2)])
     clear r6 hE
     have k0 := rk 0 _ rfl
     have k1 := rk 1 _ rfl
     have k2 := rk 2 _ rfl
     have k3 := rk 3 _ rfl
     have ltk := cell_lt k0
     have fk := znk.fr
     have HBf := hid (below_set (below_set (below_set (below_set HB hgk 0 (.int .i64 0)) hgk 1 (.int .i64 0)) hgk 2 (.int .i64 0)) hgk 3 (.int .i64 0))
     clear rk znk HB hgk
     go_wp2
     refine bodyPost_ret (v := .tuple #[.agg #[.int .i64 noX.x, .int .i64 noX.y, .int .i64 noX.w, .int .i64 noX.h], .bool false]) ?_ rfl ?_
     ·simp [results, Tryz.results14, go_sem, k0, k1, k2, k3, noX]
     ·exact ⟨by first | rfl | (rw [← hQ.out]), HBf.out⟩
    ·have hQ := hid (show ((⟨l, t, p1, p2⟩, true) : Bx × Bool) = Q by rw [hE.out, if_neg (by omega)])
     clear hE
     have q0 : v4.cell? ⟨g6, 0, none⟩ = some (.int .i64 l) := r6 0 _ rfl
     have q1 : v4.cell? ⟨g6, 1, none⟩ = some (.int .i64 t) := r6 1 _ rfl
     have k0 := rk 0 _ rfl
     have k1 := rk 1 _ rfl
     have k2 := rk 2 _ rfl
     have k3 := rk 3 _ rfl
     have ltk := cell_lt k0
     have fk := znk.fr
     have HBf := hid (below_set (below_set (below_set (below_set HB hgk 0 (.int .i64 l)) hgk 1 (.int .i64 t)) hgk 2 (.int .i64 p1)) hgk 3 (.int .i64 p2))
     clear rk znk HB hgk
     go_wp2
     refine bodyPost_ret (v := .tuple #[.agg #[.int .i64 l, .int .i64 t, .int .i64 p1, .int .i64 p2], .bool true]) ?_ rfl ?_
     ·simp [results, Tryz.results14, go_sem, k0, k1, k2, k3]
     ·rw [← hQ.out]; exact ⟨rfl, HBf.out⟩
  ·obtain rfl := hQ.out (by first | exact Or.inr rfl | simp)
   have hQ := hid (rfl : (noX, false) = (noX, false))
   clear hN HBt ca0 ca1 ca2 ca3 cb0 cb1 cb2 cb3
   have k0 := rk 0 _ rfl
   have k1 := rk 1 _ rfl
   have k2 := rk 2 _ rfl
   have k3 := rk 3 _ rfl
   have ltk := cell_lt k0
   have fk := znk.fr
   have HBf := hid (below_set (below_set (below_set (below_set HB hgk 0 (.int .i64 0)) hgk 1 (.int .i64 0)) hgk 2 (.int .i64 0)) hgk 3 (.int .i64 0))
   clear rk znk HB hgk
   go_wp2
   refine bodyPost_ret (v := .tuple #[.agg #[.int .i64 noX.x, .int .i64 noX.y, .int .i64 noX.w, .int .i64 noX.h], .bool false]) ?_ rfl ?_
   ·simp [results, Tryz.results14, go_sem, k0, k1, k2, k3, noX]
   ·exact ⟨by first | rfl | (rw [← hQ.out]), HBf.out⟩
 ·obtain rfl := hQ.out (by first | exact Or.inl rfl | simp)
  have hQ := hid (rfl : (noX, false) = (noX, false))
  clear hN HBt HC ca0 ca1 ca2 ca3 cb0 cb1 cb2 cb3
  have k0 := rk 0 _ rfl
  have k1 := rk 1 _ rfl
  have k2 := rk 2 _ rfl
  have k3 := rk 3 _ rfl
  have ltk := cell_lt k0
  have fk := znk.fr
  have HBf := hid (below_set (below_set (below_set (below_set HB hgk 0 (.int .i64 0)) hgk 1 (.int .i64 0)) hgk 2 (.int .i64 0)) hgk 3 (.int .i64 0))
  clear rk znk HB hgk
  go_wp2
  refine bodyPost_ret (v := .tuple #[.agg #[.int .i64 noX.x, .int .i64 noX.y, .int .i64 noX.w, .int .i64 noX.h], .bool false]) ?_ rfl ?_
  ·simp [results, Tryz.results14, go_sem, k0, k1, k2, k3, noX]
  ·exact ⟨by first | rfl | (rw [← hQ.out]), HBf.out⟩
end Go.Proofs.YtglailcfgcdagaaGreat
