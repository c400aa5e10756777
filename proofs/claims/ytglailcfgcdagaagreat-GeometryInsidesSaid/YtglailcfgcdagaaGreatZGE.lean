/- Geometry: cmp.Compare and cmp.Or at integers, the order of two corners. Conditions: none. -/
import Derived.Test.YtglailcfgcdagaaGreatZGB
import Derived.Shelf.SlSortCmp.WholeK
import Derived.Shelf.SlSortCmp.QuietGrown
import Derived.Test.YtglailcfgcdagaaGreatZYI
import Derived.Test.YtglailcfgcdagaaGreatProg
import Derived.Shelf.SlSortCmp.NoneTotal
import Derived.Shelf.SlicesQ.Reverse
set_option linter.unusedVariables false
set_option linter.unusedSimpArgs false
namespace Go.Proofs.YtglailcfgcdagaaGreat
open Go.RowKit Big
def cmp1 (a b : Int) : Int := if a < b then -1 else if b < a then 1 else 0
theorem isNaN_w (x : Int) (w : World) : Calls Tryz.prog 96 #[.int .i64 x] w fun e w' => e = .returned (.bool false) ∧ w' = w := by
 go_enter Tryz.func96, Tryz.ntmps96
 go_wp2
 go_ret
 exact ⟨by simp, rfl⟩
set_option maxHeartbeats 1000000 in
theorem Compare_w (x y : Int) (w : World) : Calls Tryz.prog 67 #[.int .i64 x, .int .i64 y] w fun e w' => e = .returned (.int .i64 (cmp1 x y)) ∧ w' = w := by
 have H1 := hid (isNaN_w x w)
 have H2 := hid (isNaN_w y w)
 obtain ⟨k, hk⟩ : ∃ k, cmp1 x y = k := ⟨_, rfl⟩
 rw [hk]
 replace hk := hid hk
 go_enter Tryz.func67, Tryz.ntmps67
 go_wp2_with fail
 refine H1.out.mono ?_
 rintro e w1 ⟨rfl, rfl⟩
 go_wp2_with fail
 refine H2.out.mono ?_
 rintro e w2 ⟨rfl, rfl⟩
 clear H1 H2
 by_cases h1 : x < y
 ·obtain rfl : -1 = k := by rw [← hk.out]; unfold cmp1; rw [if_pos h1]
  clear hk
  go_wp2
  go_ret
  exact ⟨rfl, rfl⟩
 ·by_cases h2 : y < x
  ·obtain rfl : 1 = k := by rw [← hk.out]; unfold cmp1; rw [if_neg h1, if_pos h2]
   clear hk
   go_wp2
   go_ret
   exact ⟨rfl, rfl⟩
  ·obtain rfl : 0 = k := by rw [← hk.out]; unfold cmp1; rw [if_neg h1, if_neg h2]
   clear hk
   go_wp2
   go_ret
   exact ⟨rfl, rfl⟩
set_option maxHeartbeats 1000000 in
theorem Or_w (x y : Int) (g c : Nat) {w : World} (h0 : w.cell? ⟨g, 0, none⟩ = some (.int .i64 x)) (h1 : w.cell? ⟨g, 1, none⟩ = some (.int .i64 y)) : Calls Tryz.prog 66 #[.slice (some ⟨g, 0, none⟩) 2 c] w fun e w' => e = .returned (.int .i64 (if x = 0 then y else x)) ∧ w' = w := by
 obtain ⟨k, hk⟩ : ∃ k, (if x = 0 then y else x) = k := ⟨_, rfl⟩
 rw [hk]
 by_cases hx : x = 0
 ·obtain rfl : y = k := by rw [← hk, if_pos hx]
  clear hk
  subst hx
  by_cases hy : y = 0
  ·subst hy
   go_enter Tryz.func66, Tryz.ntmps66
   go_wp2
   refine wp_loop_rounds 3 ?_
   rw [rounds_succ]
   go_wp2
   rw [rounds_succ]
   go_wp2
   rw [rounds_succ]
   go_wp2
   go_ret
   exact ⟨rfl, rfl⟩
  ·go_enter Tryz.func66, Tryz.ntmps66
   go_wp2
   refine wp_loop_rounds 3 ?_
   rw [rounds_succ]
   go_wp2
   rw [rounds_succ]
   go_wp2
   go_ret
   exact ⟨rfl, rfl⟩
 ·obtain rfl : x = k := by rw [← hk, if_neg hx]
  clear hk
  go_enter Tryz.func66, Tryz.ntmps66
  go_wp2
  refine wp_loop_rounds 3 ?_
  rw [rounds_succ]
  go_wp2
  go_ret
  exact ⟨rfl, rfl⟩
end Go.Proofs.YtglailcfgcdagaaGreat
/- Geometry: the order of two corners. Conditions: none. -/
namespace Go.Proofs.YtglailcfgcdagaaGreat
open Go.RowKit Big
theorem enterR2e {w : World} {c0 c1 : List Value} {t0 t1 : TypeId} {P : World → Prop}
  (H : ∀ u, Hid (u = (w.alloc (.cells c0.toArray t0)).alloc (.cells c1.toArray t1)) → u.rangeAt w.heap.size 0 c0 → u.rangeAt (w.heap.size + 1) 0 c1 → P u) :
  P ((w.alloc (.cells c0.toArray t0)).alloc (.cells c1.toArray t1)) :=
 H _ rfl (rng_below rng_alloc ((Below.refl _ _).alloc (Nat.le_refl _) _)) (by
  have := rng_alloc (w := w.alloc (.cells c0.toArray t0)) (cs := c1) (t := t1)
  simpa using this)
theorem cmpP_or (p q : Int × Int) : (if cmp1 p.1 q.1 = 0 then cmp1 p.2 q.2 else cmp1 p.1 q.1) = cmpP p q := by
 unfold cmp1 cmpP
 by_cases h1 : p.1 < q.1 <;> by_cases h2 : q.1 < p.1 <;> by_cases h3 : p.2 < q.2 <;> by_cases h4 : q.2 < p.2 <;> simp [h1, h2, h3, h4] <;> omega
set_option maxRecDepth 100000 in
set_option maxHeartbeats 4000000 in
theorem order_w (p q : Int × Int) (W : World) : Calls Tryz.prog 52 #[.agg #[.int .i64 p.1, .int .i64 p.2], .agg #[.int .i64 q.1, .int .i64 q.2]] W fun e w' => e = .returned (.int .i64 (cmpP p q)) ∧ ∃ n os, w' = Go.Sort.grow (W.drewN n) os := by
 have hO := hid (cmpP_or p q)
 obtain ⟨p0, p1⟩ := p
 obtain ⟨q0, q1⟩ := q
 dsimp only at hO ⊢
 have H1 := hid fun (V : World) => Compare_w p0 q0 V
 have H2 := hid fun (V : World) => Compare_w p1 q1 V
 generalize cmp1 p0 q0 = r0 at *
 generalize cmp1 p1 q1 = r1 at *
 obtain ⟨K0, hK0⟩ : ∃ k, cmpP (p0, p1) (q0, q1) = k := ⟨_, rfl⟩
 rw [hK0] at hO ⊢
 clear hK0
 have H3 := hid fun (g c : Nat) (V : World) (h0 : V.cell? ⟨g, 0, none⟩ = some (.int .i64 r0)) (h1 : V.cell? ⟨g, 1, none⟩ = some (.int .i64 r1)) => (show Calls Tryz.prog 66 #[.slice (some ⟨g, 0, none⟩) 2 c] V fun e w' => e = .returned (.int .i64 K0) ∧ w' = V from by
  have := Or_w r0 r1 g c h0 h1
  rwa [hO.out] at this)
 clear hO
 go_enter Tryz.func52, Tryz.ntmps52
 go_upto_region 1 with fail
 refine enterR2e (P := fun u => Code.wp _ _ _ _ u) (c0 := [.int .i64 p0, .int .i64 p1]) (c1 := [.int .i64 q0, .int .i64 q1]) ?_
 intro u hu s0 s1
 have cp0 : (u).cell? ⟨W.heap.size, 0, none⟩ = some (.int .i64 p0) := s0 0 _ rfl
 have cp1 : (u).cell? ⟨W.heap.size, 1, none⟩ = some (.int .i64 p1) := s0 1 _ rfl
 have cq0 : (u).cell? ⟨W.heap.size + 1, 0, none⟩ = some (.int .i64 q0) := s1 0 _ rfl
 have cq1 : (u).cell? ⟨W.heap.size + 1, 1, none⟩ = some (.int .i64 q1) := s1 1 _ rfl
 clear s0 s1
 go_region_held3 (fun w' => w'.cell? ⟨W.heap.size, 0, none⟩ = some (.int .i64 p0) ∧ w'.cell? ⟨W.heap.size, 1, none⟩ = some (.int .i64 p1) ∧ w'.cell? ⟨W.heap.size + 1, 0, none⟩ = some (.int .i64 q0) ∧ w'.cell? ⟨W.heap.size + 1, 1, none⟩ = some (.int .i64 q1)) (first | ((try dsimp only); repeat' (first | with_reducible assumption | apply And.intro | (with_reducible refine keep_alloc ?_) | (with_reducible refine keep_drew ?_) | (with_reducible refine keep_set (by omega) ?_) | (with_reducible refine keep_sets (by omega) ?_) | (with_reducible refine keep_cell (W := u) ?_ ?_) | fail))) (first | (go_at_call 67; (first | (with_reducible refine (H1.out _).mono ?_) | (with_reducible refine (H2.out _).mono ?_)); rintro e y1 ⟨rfl, rfl⟩) | (go_at_call 66; refine (H3.out _ _ _ ?_ ?_).mono ?_; exact keep_drew (rng_alloc (w := u) (cs := [.int .i64 r0, .int .i64 r1]) (t := 3) 0 _ rfl); exact keep_drew (rng_alloc (w := u) (cs := [.int .i64 r0, .int .i64 r1]) (t := 3) 1 _ rfl); rintro e y3 ⟨rfl, rfl⟩))
 all_goals
  go_wp2
  go_ret
  exact ⟨rfl, 1, _, by rw [hu.out, Go.Sort.alloc_eq_grow, Go.Sort.alloc_eq_grow, Go.Sort.alloc_eq_grow, Go.Sort.grow_grow, Go.Sort.grow_grow, Go.Sort.drew_grow]; rfl⟩
theorem ltOf_cmpP (a b : Int × Int) : Go.Proofs.ltOf cmpP a b = decide (a.1 < b.1 ∨ (a.1 = b.1 ∧ a.2 < b.2)) := by
 unfold Go.Proofs.ltOf cmpP
 by_cases h1 : a.1 < b.1 <;> by_cases h2 : b.1 < a.1 <;> by_cases h3 : a.2 < b.2 <;> by_cases h4 : b.2 < a.2 <;> simp [h1, h2, h3, h4] <;> omega
theorem swo_cmpP : Go.Sort.SWO (Go.Proofs.ltOf cmpP) where
 irrefl x := by rw [ltOf_cmpP]; simp
 trans x y z h1 h2 := by rw [ltOf_cmpP] at *; simp at *; omega
 ntrans x y z h1 h2 := by rw [ltOf_cmpP] at *; simp at *; omega
theorem tot_cmpP (x y : Int × Int) (h1 : Go.Proofs.ltOf cmpP x y = false) (h2 : Go.Proofs.ltOf cmpP y x = false) : x = y := by
 rw [ltOf_cmpP] at *
 simp at *
 exact Prod.ext (by omega) (by omega)
/-- a corner's two cells -/
def encP (x : Int × Int) : List Value := [.int .i64 x.1, .int .i64 x.2]
theorem order_lays (blk off size : Nat) (w : World) : Go.Proofs.CmpLays Tryz.prog 52 #[] encP 2 cmpP blk off size w :=
 fun _ _ _ _ x y => order_w x y _
end Go.Proofs.YtglailcfgcdagaaGreat
/- The library's sort and reversal at this program's corners and points: what their laws ask of the dump. Conditions: none. -/
namespace Go.Proofs.YtglailcfgcdagaaGreat
open Go.Shelf Go.RowKit Go.Lib Go.Sort
set_option maxRecDepth 100000
def sortCorner_ren : Go.Shelf.Ren := ⟨fun | 6 => 51 | 15 => 65 | 14 => 64 | 28 => 94 | 29 => 95 | 20 => 86 | 21 => 87 | 22 => 88 | 23 => 89 | 24 => 90 | 25 => 91 | 26 => 92 | 27 => 93 | 46 => 99 | 47 => 100 | 48 => 101 | 49 => 102 | 50 => 103 | 57 => 104 | n => n, fun | 22 => 87 | 24 => 88 | 25 => 90 | 3 => 3 | 39 => 101 | 0 => 0 | 53 => 85 | 55 => 83 | 4 => 4 | 46 => 115 | 45 => 114 | 50 => 119 | 5 => 5 | 9 => 9 | 66 => 124 | 70 => 128 | 76 => 130 | 77 => 131 | n => n, fun | n => n⟩
theorem sortCorner : Go.Proofs.SlLaysF0.n6 Tryz.prog sortCorner_ren where
 mixed := by kernel_rfl
 f6 := ⟨"slices.SortFunc[[]barscan/geometry.corner,barscan/geometry.corner]", by decide, Tryz.func51.trans (congrArg some (by kernel_rfl))⟩
 f14 := ⟨"slices.pdqsortCmpFunc[barscan/geometry.corner]", by decide, Tryz.func64.trans (congrArg some (by kernel_rfl))⟩
 f15 := Tryz.func65.trans (congrArg some (by kernel_rfl))
 f20 := ⟨"slices.insertionSortCmpFunc[barscan/geometry.corner]", by decide, Tryz.func86.trans (congrArg some (by kernel_rfl))⟩
 f21 := ⟨"slices.heapSortCmpFunc[barscan/geometry.corner]", by decide, Tryz.func87.trans (congrArg some (by kernel_rfl))⟩
 f22 := ⟨"slices.breakPatternsCmpFunc[barscan/geometry.corner]", by decide, Tryz.func88.trans (congrArg some (by kernel_rfl))⟩
 f23 := ⟨"slices.choosePivotCmpFunc[barscan/geometry.corner]", by decide, Tryz.func89.trans (congrArg some (by kernel_rfl))⟩
 f24 := ⟨"slices.reverseRangeCmpFunc[barscan/geometry.corner]", by decide, Tryz.func90.trans (congrArg some (by kernel_rfl))⟩
 f25 := ⟨"slices.partialInsertionSortCmpFunc[barscan/geometry.corner]", by decide, Tryz.func91.trans (congrArg some (by kernel_rfl))⟩
 f26 := ⟨"slices.partitionEqualCmpFunc[barscan/geometry.corner]", by decide, Tryz.func92.trans (congrArg some (by kernel_rfl))⟩
 f27 := ⟨"slices.partitionCmpFunc[barscan/geometry.corner]", by decide, Tryz.func93.trans (congrArg some (by kernel_rfl))⟩
 f28 := Tryz.func94.trans (congrArg some (by kernel_rfl))
 f29 := Tryz.func95.trans (congrArg some (by kernel_rfl))
 f46 := ⟨"slices.siftDownCmpFunc[barscan/geometry.corner]", by decide, Tryz.func99.trans (congrArg some (by kernel_rfl))⟩
 f47 := Tryz.func100.trans (congrArg some (by kernel_rfl))
 f48 := Tryz.func101.trans (congrArg some (by kernel_rfl))
 f49 := ⟨"slices.medianAdjacentCmpFunc[barscan/geometry.corner]", by decide, Tryz.func102.trans (congrArg some (by kernel_rfl))⟩
 f50 := ⟨"slices.medianCmpFunc[barscan/geometry.corner]", by decide, Tryz.func103.trans (congrArg some (by kernel_rfl))⟩
 f57 := ⟨"slices.order2CmpFunc[barscan/geometry.corner]", by decide, Tryz.func104.trans (congrArg some (by kernel_rfl))⟩
 t0 := Tryz.underlying0
 a0 := Tryz.isAgg0
 z0 := Tryz.sizeOf0
 v0 := Tryz.zeroValue0
 t3 := Tryz.underlying3
 a3 := Tryz.isAgg3
 z3 := Tryz.sizeOf3
 v3 := Tryz.zeroValue3
 t4 := Tryz.underlying4
 a4 := Tryz.isAgg4
 z4 := Tryz.sizeOf4
 v4 := Tryz.zeroValue4
 t5 := Tryz.underlying5
 a5 := Tryz.isAgg5
 z5 := Tryz.sizeOf5
 v5 := Tryz.zeroValue5
 t9 := Tryz.underlying9
 a9 := Tryz.isAgg9
 z9 := Tryz.sizeOf9
 v9 := Tryz.zeroValue9
 t22 := Tryz.underlying87
 a22 := Tryz.isAgg87
 z22 := Tryz.sizeOf87
 v22 := Tryz.zeroValue87
 t25 := Tryz.underlying90
 a25 := Tryz.isAgg90
 z25 := Tryz.sizeOf90
 v25 := Tryz.zeroValue90
 t39 := Tryz.underlying101
 a39 := Tryz.isAgg101
 z39 := Tryz.sizeOf101
 v39 := Tryz.zeroValue101
 t45 := Tryz.underlying114
 a45 := Tryz.isAgg114
 z45 := Tryz.sizeOf114
 v45 := Tryz.zeroValue114
 t46 := Tryz.underlying115
 a46 := Tryz.isAgg115
 z46 := Tryz.sizeOf115
 v46 := Tryz.zeroValue115
 t50 := Tryz.underlying119
 a50 := Tryz.isAgg119
 z50 := Tryz.sizeOf119
 v50 := Tryz.zeroValue119
 t53 := Tryz.underlying85
 a53 := Tryz.isAgg85
 z53 := Tryz.sizeOf85
 v53 := Tryz.zeroValue85
 t55 := Tryz.underlying83
 a55 := Tryz.isAgg83
 z55 := Tryz.sizeOf83
 v55 := Tryz.zeroValue83
 t66 := Tryz.underlying124
 a66 := Tryz.isAgg124
 z66 := Tryz.sizeOf124
 v66 := Tryz.zeroValue124
 t70 := Tryz.underlying128
 a70 := Tryz.isAgg128
 z70 := Tryz.sizeOf128
 v70 := Tryz.zeroValue128
 t76 := Tryz.underlying130
 a76 := Tryz.isAgg130
 z76 := Tryz.sizeOf130
 v76 := Tryz.zeroValue130
 t77 := Tryz.underlying131
 a77 := Tryz.isAgg131
 z77 := Tryz.sizeOf131
 v77 := Tryz.zeroValue131
def reversePt_ren : Go.Shelf.Ren := ⟨fun | 35 => 39 | n => n, fun | 22 => 22 | 23 => 24 | 3 => 3 | 4 => 4 | 0 => 0 | n => n, fun | n => n⟩
theorem reversePt : Go.Proofs.SlLaysE0.n35 Tryz.prog reversePt_ren where
 mixed := by kernel_rfl
 f35 := ⟨"slices.Reverse[[]barscan/api.Point,barscan/api.Point]", by decide, Tryz.func39.trans (congrArg some (by kernel_rfl))⟩
 t0 := Tryz.underlying0
 a0 := Tryz.isAgg0
 z0 := Tryz.sizeOf0
 v0 := Tryz.zeroValue0
 t3 := Tryz.underlying3
 a3 := Tryz.isAgg3
 z3 := Tryz.sizeOf3
 v3 := Tryz.zeroValue3
 t4 := Tryz.underlying4
 a4 := Tryz.isAgg4
 z4 := Tryz.sizeOf4
 v4 := Tryz.zeroValue4
 t22 := Tryz.underlying22
 a22 := Tryz.isAgg22
 z22 := Tryz.sizeOf22
 v22 := Tryz.zeroValue22
end Go.Proofs.YtglailcfgcdagaaGreat
/- Geometry: slices.SortFunc at corners, slices.Reverse at points. Conditions: none beyond the sizes. -/
namespace Go.Proofs.YtglailcfgcdagaaGreat
open Go.RowKit Big Go.Shelf Go.Lib Go.Sort
theorem one_encP (x : Int × Int) : ∀ v ∈ encP x, v.oneCell' = true := fun v hv => by
 simp only [encP, List.mem_cons, List.not_mem_nil, or_false] at hv
 rcases hv with rfl | rfl <;> rfl
theorem sort_w (l : List (Int × Int)) (blk off cap : Nat) (w : World) (hH : HoldsK encP 2 w blk off l.toArray) (hblk : blk < w.heap.size) (hsz : l.length < 4611686018427387904) :
  Calls Tryz.prog 51 #[.slice (some ⟨blk, off, none⟩) l.length cap, .func (.func 52) #[] #[]] w fun e w' =>
   e = .returned (.tuple #[]) ∧ ∃ n os, w' = sortWorldK encP 2 w blk off n (l.mergeSort fun x y => !decide (cmpP y x < 0)).toArray os := by
 have eg : ∀ args w, (callFunc 52 args).run Tryz.prog w = .ok (.enter 52 args) w := enters_of Tryz.func52 (by kernel_rfl) rfl
 exact AnyQ.slices_SortFunc_total sortCorner 2 Tryz.isAgg88 Tryz.sizeOf88 encP (fun _ => rfl) one_encP cmpP swo_cmpP 52 #[] blk off cap l.toArray w eg (order_lays blk off l.toArray.size w) hH hblk hsz tot_cmpP
theorem rev_w (l : List (Int × Int)) (blk off cap : Nat) (w : World) (hH : HoldsK encP 2 w blk off l.toArray) (hsz : l.length ≤ 9223372036854775807) :
  Calls Tryz.prog 39 #[.slice (some ⟨blk, off, none⟩) l.length cap] w fun e w' => e = .returned (.tuple #[]) ∧ ∃ n, w' = putRowK encP 2 (Sort.ahead w n) blk off l.reverse.toArray := by
 have h := AnyQ.slices_Reverse reversePt 2 Tryz.isAgg24 Tryz.sizeOf24 encP (fun _ => rfl) one_encP blk off cap l.toArray w hH hsz
 rwa [List.reverse_toArray] at h
end Go.Proofs.YtglailcfgcdagaaGreat
/- Geometry: rows of the library's sort in this program's words. Conditions: none. -/
namespace Go.Proofs.YtglailcfgcdagaaGreat
open Go.RowKit Big Go.Shelf Go.Lib Go.Sort
theorem pb_of_holds {w : World} {blk off c : Nat} {l : List (Int × Int)} (h : HoldsK encP 2 w blk off l.toArray) (hc : l.length ≤ c) (hm : c ≤ 9223372036854775807) (hb : blk < w.heap.size) : Pb w (some ⟨blk, off, none⟩) c l :=
 ⟨hc, hm, fun _ => ⟨blk, off, rfl, hb, fun j hj => by
  have e : l.toArray[j]! = l[j] := by simp [hj]
  have h0 := (h.cell (i := j) (c := 0) (by simpa using hj) (by omega)).1
  have h1 := (h.cell (i := j) (c := 1) (by simpa using hj) (by omega)).1
  rw [e] at h0 h1
  exact ⟨h0, h1⟩⟩⟩
theorem holds_of_pb {w : World} {blk off : Nat} {l : List (Int × Int)} (hc : ∀ j (h : j < l.length), w.cell? ⟨blk, off + j * 2, none⟩ = some (.int .i64 l[j].1) ∧ w.cell? ⟨blk, off + j * 2 + 1, none⟩ = some (.int .i64 l[j].2)) (hf : ∀ i, w.frozen? ⟨blk, i, none⟩ = false) :
  HoldsK encP 2 w blk off l.toArray := by
 intro t ht
 rw [size_flatK] at ht
 rw [get_flatK _ _ _ _ ht]
 have hl : t / 2 < l.length := by simp at ht; omega
 obtain ⟨h0, h1⟩ := hc (t / 2) hl
 have e : l.toArray[t / 2]! = l[t / 2] := by simp [hl]
 rw [e]
 refine ⟨?_, hf _⟩
 rcases (show t % 2 = 0 ∨ t % 2 = 1 by omega) with h2 | h2
 ·rw [h2, show off + t = off + t / 2 * 2 by omega, h0]; rfl
 ·rw [h2, show off + t = off + t / 2 * 2 + 1 by omega, h1]; rfl
theorem below_putK {w : World} {base n blk off : Nat} {d : Array (Int × Int)} (hb : base ≤ blk) : Below base w (putRowK encP 2 (Sort.ahead w n) blk off d) := by
 refine ⟨rfl, rfl, rfl, by simp [putRowK, Sort.ahead], fun i hi => ?_⟩
 simp only [putRowK, putRow, mapBlock, Sort.ahead]
 rw [Array.getElem?_modify]
 rw [if_neg (by omega)]
theorem below_growK {w : World} {base : Nat} {os : Array Obj} (hb : base ≤ w.heap.size) : Below base w (grow w os) := by
 refine ⟨rfl, rfl, rfl, by simp [grow], fun i hi => ?_⟩
 simp only [grow]
 rw [Array.getElem?_append_left (by omega)]
theorem below_sortK {w : World} {base n blk off : Nat} {d : Array (Int × Int)} {os : Array Obj} (hb : base ≤ blk) (hw : blk < w.heap.size) : Below base w (sortWorldK encP 2 w blk off n d os) :=
 (below_putK (n := n) (off := off) (d := d) hb).trans (below_growK (by simp [putRowK, Sort.ahead]; omega))
/-- the row behind the sort -/
theorem holds_sortK {w : World} {n blk off : Nat} {d d' : Array (Int × Int)} {os : Array Obj} (h : HoldsK encP 2 w blk off d) (hs : d'.size = d.size) (hw : blk < w.heap.size) : HoldsK encP 2 (sortWorldK encP 2 w blk off n d' os) blk off d' :=
 holdsK_grow _ _ _ os _ _ _ (by simp [putRowK, Sort.ahead]; exact hw) (holdsK_putRowK _ _ _ _ _ d d' (holdsK_ahead _ _ _ n _ _ _ h) hs)
end Go.Proofs.YtglailcfgcdagaaGreat
/- Geometry: the cells of a row of points. Conditions: none. -/
namespace Go.Proofs.YtglailcfgcdagaaGreat
open Go.RowKit Big
def cellsP : List (Int × Int) → List Value
 | [] => []
 | p :: l => .int .i64 p.1 :: .int .i64 p.2 :: cellsP l
theorem cellsP_len : ∀ l : List (Int × Int), (cellsP l).length = l.length * 2
 | [] => rfl
 | p :: l => by simp [cellsP, cellsP_len l]; omega
theorem cellsP_app : ∀ a b : List (Int × Int), cellsP (a ++ b) = cellsP a ++ cellsP b
 | [], b => rfl
 | p :: a, b => by simp [cellsP, cellsP_app a b]
theorem cellsP_get : ∀ (l : List (Int × Int)) (j : Nat) (h : j < l.length), (cellsP l)[j * 2]? = some (.int .i64 l[j].1) ∧ (cellsP l)[j * 2 + 1]? = some (.int .i64 l[j].2)
 | [], j, h => by simp at h
 | p :: l, 0, _ => ⟨rfl, rfl⟩
 | p :: l, j + 1, h => by
  have h' := cellsP_get l j (by simpa using h)
  have e1 : (j + 1) * 2 = j * 2 + 2 := by omega
  rw [e1]
  exact ⟨h'.1, h'.2⟩
theorem cellsP_set : ∀ (l : List (Int × Int)) (j : Nat) (p : Int × Int), cellsP (l.set j p) = ((cellsP l).set (j * 2) (.int .i64 p.1)).set (j * 2 + 1) (.int .i64 p.2)
 | [], j, p => rfl
 | q :: l, 0, p => rfl
 | q :: l, j + 1, p => by
  have e1 : (j + 1) * 2 = j * 2 + 1 + 1 := by omega
  rw [e1]
  simp [cellsP, cellsP_set l j p]
theorem cellsP_zero (n : Nat) : madeCells #[Value.int .i64 0, .int .i64 0] (n * 2) = (cellsP (List.replicate n (0, 0))).toArray := by
 apply Array.ext
 ·simp [size_madeCells, cellsP_len]
 ·intro j h1 h2
  have hj : j / 2 < (List.replicate n ((0 : Int), (0 : Int))).length := by simp [size_madeCells] at h1 ⊢; omega
  obtain ⟨g0, g1⟩ := cellsP_get (List.replicate n ((0 : Int), (0 : Int))) (j / 2) hj
  simp only [List.getElem_replicate] at g0 g1
  rcases (show j % 2 = 0 ∨ j % 2 = 1 by omega) with h | h
  ·rw [show j / 2 * 2 = j by omega] at g0
   simp only [madeCells, Array.getElem_map, Array.getElem_range, List.getElem_toArray]
   rw [List.getElem?_eq_some_iff] at g0
   obtain ⟨_, g0⟩ := g0
   rw [g0]; simp [h]
  ·rw [show j / 2 * 2 + 1 = j by omega] at g1
   simp only [madeCells, Array.getElem_map, Array.getElem_range, List.getElem_toArray]
   rw [List.getElem?_eq_some_iff] at g1
   obtain ⟨_, g1⟩ := g1
   rw [g1]; simp [h]
theorem infoCn : (Tryz.prog.info? 88).map (fun i => (i.zero, i.size, i.bytes)) = some (some (.agg #[.int .i64 0, .int .i64 0]), 2, 16) := by kernel_rfl
theorem makeP (w : World) (n : Nat) (hn : n ≤ 4194304) : (Instr.makeSlice 87 (.int .i64 (n : Int)) (.int .i64 (n : Int))).run Tryz.prog w = .ok (.slice (some ⟨w.heap.size, 0, none⟩) n n) (w.alloc (.cells (cellsP (List.replicate n (0, 0))).toArray 88)) := by
 have h := infoCn
 cases hi : Tryz.prog.info? 88 with
 | none => rw [hi] at h; simp at h
 | some i =>
  rw [hi] at h
  simp only [Option.map_some, Option.some.injEq, Prod.mk.injEq] at h
  obtain ⟨h1, h2, h3⟩ := h
  have := run_makeSlice (P := Tryz.prog) w 87 88 i _ Tryz.underlying87 hi h1 .i64 .i64 (n : Int) (n : Int) (by omega) (by omega) (by rw [h2]; simp; omega) (by rw [h3]; omega) (by omega)
  rw [h2] at this
  simp only [Int.toNat_natCast] at this
  rw [show (Value.agg #[Value.int .i64 0, Value.int .i64 0]).cells = #[Value.int .i64 0, .int .i64 0] from rfl, cellsP_zero] at this
  exact this
/-- a row of points that is being filled -/
structure FilQ (w : World) (g : Nat) (d : List (Int × Int)) (wr : World) : Prop where
 b : Below w.heap.size w wr
 z : Zn wr g
 hg : w.heap.size ≤ g
 r : wr.rangeAt g 0 (cellsP d)
theorem FilQ.below {w wr w1 : World} {g : Nat} {d : List (Int × Int)} (h : FilQ w g d wr) (hb : Below wr.heap.size wr w1) : FilQ w g d w1 := ⟨bel_step h.b hb, h.z.below hb, h.hg, rng_below h.r hb⟩
theorem FilQ.cell {w wr : World} {g : Nat} {d : List (Int × Int)} (h : FilQ w g d wr) {j : Nat} (hj : j < d.length) : wr.cell? ⟨g, j * 2, none⟩ = some (.int .i64 d[j].1) ∧ wr.cell? ⟨g, j * 2 + 1, none⟩ = some (.int .i64 d[j].2) := by
 obtain ⟨a, b⟩ := cellsP_get d j hj
 have h0 := h.r _ _ a
 have h1 := h.r _ _ b
 rw [Nat.zero_add] at h0 h1
 exact ⟨h0, h1⟩
theorem FilQ.set {w wr : World} {g : Nat} {d : List (Int × Int)} (h : FilQ w g d wr) {j : Nat} (hj : j < d.length) (p : Int × Int) : FilQ w g (d.set j p) ((wr.setCell ⟨g, j * 2, none⟩ (.int .i64 p.1)).setCell ⟨g, j * 2 + 1, none⟩ (.int .i64 p.2)) := by
 refine ⟨below_set (below_set h.b h.hg _ _) h.hg _ _, h.z.set_.set_, h.hg, fun i v hv => ?_⟩
 rw [Nat.zero_add]
 obtain ⟨k0, k1⟩ := h.cell hj
 rw [cellsP_set, List.getElem?_set] at hv
 by_cases h1 : j * 2 + 1 = i
 ·subst h1
  rw [if_pos rfl, if_pos (by rw [List.length_set, cellsP_len]; omega)] at hv
  obtain rfl := Option.some.inj hv
  exact World.cell?_setCell_same _ _ _ ((cell_set_ne (by omega)).trans k1)
 ·rw [if_neg h1, List.getElem?_set] at hv
  refine (cell_set_ne h1).trans ?_
  by_cases h2 : j * 2 = i
  ·subst h2
   rw [if_pos rfl, if_pos (by rw [cellsP_len]; omega)] at hv
   obtain rfl := Option.some.inj hv
   exact World.cell?_setCell_same _ _ _ k0
  ·rw [if_neg h2] at hv
   have := h.r i v hv
   rw [Nat.zero_add] at this
   exact (cell_set_ne h2).trans this
end Go.Proofs.YtglailcfgcdagaaGreat
