/- Sampling: rows of pixels that are made and filled; places of a table by number. Conditions: none. -/
import Derived.Test.YtdkgbkbbbldliaaGreatZSG
import Derived.Laws.MakeOwn
import Derived.Test.YtdkgbkbbbldliaaGreatZYC
set_option linter.unusedVariables false
set_option linter.unusedSimpArgs false
namespace Go.Proofs.YtdkgbkbbbldliaaGreat
open Go.RowKit Big
theorem Wo (m : Bm) (N : List Int) (c r : Int) : (smpL m N c r).length = (c * r).toNat := by unfold smpL; rw [List.length_map, Hp]
theorem place {C R x y : Nat} (hx : x < C) (hy : y < R) : y * C + x < C * R := by
 have : (y + 1) * C ≤ R * C := Nat.mul_le_mul_right _ hy
 rw [Nat.add_mul, Nat.one_mul, Nat.mul_comm R] at this
 omega
theorem Vx {m : Bm} {N : List Int} {C R x y : Nat} (hx : x < C) (hy : y < R) (h : y * C + x < (smpL m N (C : Int) (R : Int)).length) : (smpL m N (C : Int) (R : Int))[y * C + x] = atB m N ((x : Int), (y : Int)) := by
 obtain ⟨h1, h2⟩ := Em (c := (C : Int)) (r := (R : Int)) (x := (x : Int)) (y := (y : Int)) ⟨by omega, by omega⟩ ⟨by omega, by omega⟩
 have e : ((y : Int) * (C : Int) + (x : Int)).toNat = y * C + x := by
  rw [← Int.natCast_mul, ← Int.natCast_add, Int.toNat_natCast]
 simp only [e] at h1 h2
 exact (List.getElem_map (l := ptsB (C : Int) (R : Int)) (atB m N)).trans (congrArg _ h2)
theorem allP_no {N : List Int} {C R x y : Nat} (hx : x < C) (hy : y < R) (h : posZ N x y = none) : allP N (C : Int) (R : Int) = false := by
 unfold allP
 rw [List.all_eq_false]
 exact ⟨((x : Int), (y : Int)), Ed ⟨by omega, by omega⟩ ⟨by omega, by omega⟩, by rw [h]; decide⟩
def Img (N : List Int) (C k : Nat) : Prop := ∀ i, i < k → posZ N ((i % C : Nat) : Int) ((i / C : Nat) : Int) ≠ none
theorem Img.zero (N : List Int) (C : Nat) : Img N C 0 := fun i h => by omega
theorem Img.next {N : List Int} {C x y : Nat} (hx : x < C) (h : Img N C (y * C + x)) (h1 : posZ N x y ≠ none) : Img N C (y * C + (x + 1)) := fun i hi => by
 rcases Nat.lt_or_ge i (y * C + x) with h2 | h2
 ·exact h i h2
 ·obtain rfl : i = y * C + x := by omega
  have e1 : (y * C + x) % C = x := by rw [Nat.add_comm, Nat.add_mul_mod_self_right, Nat.mod_eq_of_lt hx]
  have e2 : (y * C + x) / C = y := by rw [Nat.add_comm, Nat.add_mul_div_right _ _ (by omega), Nat.div_eq_of_lt hx, Nat.zero_add]
  rw [e1, e2]
  exact h1
theorem Img.row {N : List Int} {C y : Nat} (h : Img N C (y * C + C)) : Img N C ((y + 1) * C) := by rwa [Nat.add_mul, Nat.one_mul]
theorem Img.all {N : List Int} {C R : Nat} (h : Img N C (R * C)) : allP N (C : Int) (R : Int) = true := by
 unfold allP
 rw [List.all_eq_true]
 intro p hp
 obtain ⟨i, hi, rfl⟩ := List.mem_map.1 hp
 rw [List.mem_range, ← Int.natCast_mul, Int.toNat_natCast, Nat.mul_comm] at hi
 have := h i hi
 rw [Int.natCast_emod, Int.natCast_ediv] at this
 dsimp only
 cases hq : posZ N ((i : Int) % (C : Int)) ((i : Int) / (C : Int)) with
 | none => exact absurd hq this
 | some q => rfl
theorem atB_some {m : Bm} {N : List Int} {x y : Int} {q : Int × Int} (hm : bmB m = true) (h : posZ N x y = some q) : posP N x y = (clP q.1, clP q.2, true) ∧ pixZ m (clP q.1) (clP q.2) = atB m N (x, y) := by
 refine ⟨by unfold posP; rw [h], ?_⟩
 rw [pix_clP hm]
 unfold atB
 rw [h]
theorem atR_some {m : Bm} {N : List Int} {x y : Int} {q : Int × Int} (hm : bmB m = true) (h : posZ N x y = some q) : posR N x y = (clR q.1, clR q.2, true) ∧ pixZ m (clR q.1) (clR q.2) = atB m N (x, y) := by
 refine ⟨by unfold posR; rw [h], ?_⟩
 rw [pix_clR hm]
 unfold atB
 rw [h]
theorem Dy {m : Bm} {N : List Int} {x y : Int} (h : posZ N x y = none) : posP N x y = (0, 0, false) ∧ posR N x y = (0, 0, false) ∧ atB m N (x, y) = false := by
 refine ⟨by unfold posP; rw [h], by unfold posR; rw [h], by unfold atB; rw [h]⟩
theorem D8 : (Tryz.prog.info? 4).map (fun i => (i.zero, i.size, i.bytes)) = some (some (.bool false), 1, 1) := by kernel_rfl
theorem makeB (w : World) (n : Nat) (hn : n ≤ 4194304) (p : Int) (hp : p = (n : Int)) : (Instr.makeSlice 22 (.int .i64 p) (.int .i64 p)).run Tryz.prog w = .ok (.slice (some ⟨w.heap.size, 0, none⟩) n n) (w.alloc (.cells ((List.replicate n false).map bv).toArray 4)) := by
 subst hp
 have h := D8
 cases hi : Tryz.prog.info? 4 with
 | none => rw [hi] at h; simp at h
 | some i =>
  rw [hi] at h
  simp only [Option.map_some, Option.some.injEq, Prod.mk.injEq] at h
  obtain ⟨h1, h2, h3⟩ := h
  have := run_makeSlice (P := Tryz.prog) w 22 4 i _ Tryz.underlying22 hi h1 .i64 .i64 (n : Int) (n : Int) (by omega) (by omega) (by rw [h2]; simp; omega) (by rw [h3]; omega) (by omega)
  rw [h2] at this
  simp only [Int.toNat_natCast, Nat.mul_one] at this
  have e : madeCells (Value.bool false).cells n = ((List.replicate n false).map bv).toArray := by
   apply Array.ext
   ·simp [size_madeCells]
   ·intro j h1 h2
    simp [madeCells, Value.cells, bv, Nat.mod_one]
  rw [e] at this
  exact this
structure FilP (w : World) (g : Nat) (d : List Bool) (gr : Nat) (cs : List Value) (wr : World) : Prop where
 f : FilB w g d wr
 r : wr.rangeAt gr 0 cs
 z : Zn wr gr
 ne : gr ≠ g
 hgr : w.heap.size ≤ gr
theorem FilP.below {w wr w1 : World} {g : Nat} {d : List Bool} {gr : Nat} {cs : List Value} (h : FilP w g d gr cs wr) (hb : Below wr.heap.size wr w1) : FilP w g d gr cs w1 := ⟨h.f.below hb, Ke h.r hb, h.z.below hb, h.ne, h.hgr⟩
theorem FilP.set {w wr : World} {g : Nat} {d : List Bool} {gr : Nat} {cs : List Value} (h : FilP w g d gr cs wr) {j : Nat} (hj : j < d.length) (t : Bool) : FilP w g (d.set j t) gr cs (wr.setCell ⟨g, j, none⟩ (.bool t)) :=
 ⟨h.f.set hj t, Jh h.r (Ne.symm h.ne), h.z.set_, h.ne, h.hgr⟩
theorem Mb.of_rng {W : World} {g : Nat} {d : List Bool} {c : Nat} (hr : W.rangeAt g 0 (d.map bv)) (hlt : g < W.heap.size) (hc : d.length ≤ c) (hm : c ≤ 9223372036854775807) : Mb W (some ⟨g, 0, none⟩) c d :=
 ⟨hc, hm, fun _ => ⟨g, 0, rfl, hlt, fun j hj => by
  have := hr j (.bool d[j]) (by rw [List.getElem?_map, List.getElem?_eq_getElem hj]; rfl)
  exact this⟩⟩
theorem Qj {w : World} : Below w.heap.size w w.drew := (Below.refl _ _).drew
theorem Xy {fs : List Rf} (h9 : fs.length = 9) (h : nrmB fs = true) : (nrmZ fs).length = 9 ∧ ∀ z ∈ nrmZ fs, Bz 1280 z := ⟨Jf h9, (Zo h).1⟩
set_option maxRecDepth 100000 in
set_option maxHeartbeats 8000000 in
theorem Uw {m : Bm} {A : Option Addr} {c : Nat} (fs : List Rf) (h9 : fs.length = 9) {w : World} (hb : Mb w A c m.d) (hm : ∀ f ∈ fs, f.mg w) (cols rows : Int) :
  Calls Tryz.prog 13 #[.agg #[.int .i64 m.w, .int .i64 m.h, .slice A m.d.length c], .agg (Kc (zl fs)).toArray, .int .i64 cols, .int .i64 rows] w (D7 w (smpE m (nrmB fs) (nrmZ fs) cols rows)) := by
 have hi := hid (show (Tryz.prog.info? 32).map (·.size) = some (Kc (zl fs)).length by rw [Kf, Ky, h9]; exact T32i)
 obtain ⟨d32, hU32, row32⟩ := T32u
 obtain ⟨P, hP⟩ : ∃ P, smpE m (nrmB fs) (nrmZ fs) cols rows = P := ⟨_, rfl⟩
 have hQ : Hid (smpE m (nrmB fs) (nrmZ fs) cols rows = P) := hP
 rw [hP]
 clear hP
 have HCk := hid fun (W : World) => RCheck_g m A c W
 have HVa := hid fun (W : World) (h : Below w.heap.size w W) => V7 fs h9 (w := W) (fun f hf => (hm f hf).below h)
 have HPo := hid fun (W : World) => Z4 cols rows W
 have HNG := hid fun (hv : nrmB fs = true) (W : World) (h : Below w.heap.size w W) => Z7 fs h9 (w := W) (fun f hf => (hm f hf).below h) hv
 have HDk := hid fun (hm : bmB m = true) (W : World) (h : Below w.heap.size w W) => Sdark_g hm (hb.below h)
 have hNB := hid fun h => Xy h9 (fs := fs) h
 unfold ckE at HCk
 have hmc := hb.cap
 have hmx := hb.max
 clear hm hb h9
 go_enter Tryz.func13, Tryz.ntmps13
 go_upto_region 1 with fail
 refine X5 (P := fun u => Code.wp _ _ _ _ u) (c0 := [.int .i64 m.w, .int .i64 m.h, .slice A m.d.length c]) (c2 := [.int .i64 0, .int .i64 0, .slice none 0 0]) ?_
 intro u HB r0 r1 r2 zn0 zn1 zn2 hsz
 clear hsz zn0 zn1
 have r2 : u.rangeAt (w.heap.size + 1 + 1) 0 [.int .i64 0, .int .i64 0, .slice none 0 0] := r2
 have c0 : (u).cell? ⟨w.heap.size, 0, none⟩ = some (.int .i64 m.w) := r0 0 _ rfl
 have c1 : (u).cell? ⟨w.heap.size, 1, none⟩ = some (.int .i64 m.h) := r0 1 _ rfl
 have c2 : (u).cell? ⟨w.heap.size, 2, none⟩ = some (.slice A m.d.length c) := r0 2 _ rfl
 go_wp2_with fail
 refine (HCk.out u).mono ?_
 rintro e v ⟨rfl, hv⟩
 have r1 := Ke r1 hv
 have r2 := Ke r2 hv
 have zn2 := zn2.below hv
 have HB := Kb HB hv
 have c0 := Ka hv c0
 have c1 := Ka hv c1
 have c2 := Ka hv c2
 clear HCk hv r0
 cases hbm : bmB m
 ·have HR : Hid (P = (noB, 1)) := by unfold Hid; rw [← hQ.out]; unfold smpE; rw [hbm]; rfl
  clear hQ HVa HPo HNG HDk hNB
  simp only [Bool.false_eq_true, if_false]
  have k0 : (v).cell? ⟨w.heap.size + 1 + 1, 0, none⟩ = some (.int .i64 0) := r2 0 _ rfl
  have k1 : (v).cell? ⟨w.heap.size + 1 + 1, 1, none⟩ = some (.int .i64 0) := r2 1 _ rfl
  have k2 : (v).cell? ⟨w.heap.size + 1 + 1, 2, none⟩ = some (.slice none 0 0) := r2 2 _ rfl
  have ltk := Kd k0
  have fk := zn2.fr
  have HBf := hid (Kg (Kg (Kg HB (show w.heap.size ≤ w.heap.size + 1 + 1 by omega) 0 (.int .i64 0)) (show w.heap.size ≤ w.heap.size + 1 + 1 by omega) 1 (.int .i64 0)) (show w.heap.size ≤ w.heap.size + 1 + 1 by omega) 2 (.slice none 0 0))
  clear r2 zn2 HB
  go_wp2
  refine bodyPost_ret (v := .tuple #[.agg #[.int .i64 0, .int .i64 0, .slice none 0 0], .int .i64 (1)]) ?_ rfl ?_
  ·simp [results, Tryz.results13, go_sem, k0, k1, k2]
  ·rw [HR.out]
   exact ⟨none, 0, rfl, Mb.nil _, HBf.out⟩
 ·simp only [if_true]
  go_wp2_with (first | refine Jg (by rfl) _ _ (by rfl) (w.heap.size + 1) 0 (by rfl) (Kc (zl fs)) _ r1 hU32 row32 hi.out ?_ | fail)
  refine (HVa.out v HB).mono ?_
  rintro e v1 ⟨rfl, hv1⟩
  have r1 := Ke r1 hv1
  have r2 := Ke r2 hv1
  have zn2 := zn2.below hv1
  have HB := Kb HB hv1
  have c0 := Ka hv1 c0
  have c1 := Ka hv1 c1
  have c2 := Ka hv1 c2
  clear HVa hv1
  cases hva : nrmB fs
  ·have HR : Hid (P = (noB, 1)) := by unfold Hid; rw [← hQ.out]; unfold smpE; rw [hva, Bool.and_false]; rfl
   clear hQ HPo HNG HDk hNB
   have k0 : (v1).cell? ⟨w.heap.size + 1 + 1, 0, none⟩ = some (.int .i64 0) := r2 0 _ rfl
   have k1 : (v1).cell? ⟨w.heap.size + 1 + 1, 1, none⟩ = some (.int .i64 0) := r2 1 _ rfl
   have k2 : (v1).cell? ⟨w.heap.size + 1 + 1, 2, none⟩ = some (.slice none 0 0) := r2 2 _ rfl
   have ltk := Kd k0
   have fk := zn2.fr
   have HBf := hid (Kg (Kg (Kg HB (show w.heap.size ≤ w.heap.size + 1 + 1 by omega) 0 (.int .i64 0)) (show w.heap.size ≤ w.heap.size + 1 + 1 by omega) 1 (.int .i64 0)) (show w.heap.size ≤ w.heap.size + 1 + 1 by omega) 2 (.slice none 0 0))
   clear r2 zn2 HB
   go_wp2
   refine bodyPost_ret (v := .tuple #[.agg #[.int .i64 0, .int .i64 0, .slice none 0 0], .int .i64 (1)]) ?_ rfl ?_
   ·simp [results, Tryz.results13, go_sem, k0, k1, k2]
   ·rw [HR.out]
    exact ⟨none, 0, rfl, Mb.nil _, HBf.out⟩
  ·go_wp2_with fail
   refine (HPo.out v1).mono ?_
   rintro e v2 ⟨rfl, hv2⟩
   have r1 := Ke r1 hv2
   have r2 := Ke r2 hv2
   have zn2 := zn2.below hv2
   have HB := Kb HB hv2
   have c0 := Ka hv2 c0
   have c1 := Ka hv2 c1
   have c2 := Ka hv2 c2
   clear HPo hv2
   cases hs : J9 cols rows
   ·have HR : Hid (P = (noB, 23)) := by unfold Hid; rw [← hQ.out]; unfold smpE; rw [hbm, hva, hs]; rfl
    clear hQ HNG HDk hNB
    have k0 : (v2).cell? ⟨w.heap.size + 1 + 1, 0, none⟩ = some (.int .i64 0) := r2 0 _ rfl
    have k1 : (v2).cell? ⟨w.heap.size + 1 + 1, 1, none⟩ = some (.int .i64 0) := r2 1 _ rfl
    have k2 : (v2).cell? ⟨w.heap.size + 1 + 1, 2, none⟩ = some (.slice none 0 0) := r2 2 _ rfl
    have ltk := Kd k0
    have fk := zn2.fr
    have HBf := hid (Kg (Kg (Kg HB (show w.heap.size ≤ w.heap.size + 1 + 1 by omega) 0 (.int .i64 0)) (show w.heap.size ≤ w.heap.size + 1 + 1 by omega) 1 (.int .i64 0)) (show w.heap.size ≤ w.heap.size + 1 + 1 by omega) 2 (.slice none 0 0))
    clear r2 zn2 HB
    go_wp2
    refine bodyPost_ret (v := .tuple #[.agg #[.int .i64 0, .int .i64 0, .slice none 0 0], .int .i64 (23)]) ?_ rfl ?_
    ·simp [results, Tryz.results13, go_sem, k0, k1, k2]
    ·rw [HR.out]
     exact ⟨none, 0, rfl, Mb.nil _, HBf.out⟩
   ·obtain ⟨hN9, hNz⟩ := hNB.out hva
    obtain ⟨a1, a2, a3, a4, a5⟩ := Jj.1 hs
    obtain ⟨C, rfl⟩ := Int.eq_ofNat_of_zero_le (show 0 ≤ cols by omega)
    obtain ⟨R, rfl⟩ := Int.eq_ofNat_of_zero_le (show 0 ≤ rows by omega)
    have hw36 := Y8 hs
    obtain ⟨n, hn⟩ : ∃ n, n = C * R := ⟨_, rfl⟩
    have hpn : (C : Int) * (R : Int) = (n : Int) := by rw [hn, Int.natCast_mul]
    have hmk' := fun (W : World) => makeB W n (by omega) (n : Int) rfl
    obtain ⟨ds, hds⟩ : ∃ ds, ds = smpL m (nrmZ fs) (C : Int) (R : Int) := ⟨_, rfl⟩
    have hdl : ds.length = n := by rw [hds, Wo, hpn, Int.toNat_natCast]
    have hdg := hid fun (x y : Nat) (hx : x < C) (hy : y < R) (h : y * C + x < ds.length) => (show ds[y * C + x] = atB m (nrmZ fs) ((x : Int), (y : Int)) by subst hds; exact Vx hx hy h)
    have hQ0 := hid fun (h : allP (nrmZ fs) (C : Int) (R : Int) = false) => (show (noB, 24) = P by rw [← hQ.out]; unfold smpE; rw [hbm, hva, hs, h]; rfl)
    have hQ1 := hid fun (h : allP (nrmZ fs) (C : Int) (R : Int) = true) => (show (⟨(C : Int), (R : Int), ds⟩, 0) = P by rw [← hQ.out]; unfold smpE; rw [hbm, hva, hs, h, hds]; rfl)
    have hap := hid fun (x y : Nat) (hx : x < C) (hy : y < R) => allP_no (N := nrmZ fs) hx hy
    replace hw36 := hw36.trans hpn
    have hn4 : n ≤ 4194304 := by omega
    replace hn := hid hn
    replace hdl := hid hdl
    clear hpn a1 a3 a5
    go_wp2_with (first | refine wpList_load_mid (by rfl) _ _ (by rfl) (w.heap.size + 1) 0 (by rfl) (Kc (zl fs)) _ r1 hU32 row32 hi.out ?_ | fail)
    refine (HNG.out hva v2 HB).mono ?_
    rintro e v3 ⟨A1, c1_, B1, k1_, d1_, rfl, hG, hv3⟩
    have r2 := Ke r2 hv3
    have zn2 := zn2.below hv3
    have HB := Kb HB hv3
    have c0 := Ka hv3 c0
    have c1 := Ka hv3 c1
    have c2 := Ka hv3 c2
    have HDk := hid (HDk.out hbm)
    have hsome := hid fun (x y : Int) (q : Int × Int) (h : posZ (nrmZ fs) x y = some q) => atB_some hbm h
    have hnone := hid fun (x y : Int) (h : posZ (nrmZ fs) x y = none) => Dy (m := m) h
    clear HNG hNB hQ hv3 r1 hs hva hbm hds
    generalize nrmZ fs = N at *
    go_upto_region 6 with fail
    refine Qh (P := fun u => Code.wp _ _ _ _ u) ?_
    intro v4 hv4 g0 g1 zg hsz
    have r2 := Ke r2 hv4
    have zn2 := zn2.below hv4
    have HB := Kb HB hv4
    have c0 := Ka hv4 c0
    have c1 := Ka hv4 c1
    have c2 := Ka hv4 c2
    have hG := hG.below hv4
    clear zg hsz hv4
    have HU := hid fun (W : World) (h : Below v4.heap.size v4 W) => And.intro (Kb HB h) (And.intro (And.intro (Ka h c0) (And.intro (Ka h c1) (Ka h c2))) (And.intro (And.intro (Ke r2 h) (zn2.below h)) (And.intro (And.intro (Ka h g0) (Ka h g1)) (hG.below h))))
    have hlr := zn2.lt
    have hlg := Kd g0
    have hmk := hmk' v4
    clear hmk' c0 c1 c2 r2 zn2 HB g0 g1 hG
    go_upto_region 7 with fail
    clear hmk
    rw [show Array.replicate n (bv false) = ((List.replicate n false).map bv).toArray from by simp]
    refine Jc (P := fun u => Code.wp _ _ _ _ u) (c0 := (List.replicate n false).map bv) (c1 := [.int .i64 (C : Int), .int .i64 (R : Int), .slice (some ⟨v4.heap.size, 0, none⟩) n n]) ?_
    intro v5 hv5 rd rr zd zr hsz
    have hF : FilP v4 v4.heap.size (sofB ds 0) (v4.heap.size + 1) [.int .i64 (C : Int), .int .i64 (R : Int), .slice (some ⟨v4.heap.size, 0, none⟩) n n] v5 := ⟨⟨hv5, zd, Nat.le_refl _, by rw [sofB_none, hdl.out]; exact rd⟩, rr, zr, by omega, by omega⟩
    obtain ⟨gD, hgD⟩ : ∃ g, g = v4.heap.size := ⟨_, rfl⟩
    obtain ⟨gR, hgR⟩ : ∃ g, g = v4.heap.size + 1 := ⟨_, rfl⟩
    rw [← hgR] at hF ⊢
    rw [← hgD] at hF hlr hlg ⊢
    have hgRD : gD < gR := by omega
    clear hv5 rd rr zd zr hsz hgD hgR
    go_wp2
    go_loopw [40] (fun s40 wr => ∃ y : Nat, y ≤ R ∧ s40 = .int .i64 y ∧ FilP v4 gD (sofB ds (y * C)) gR [.int .i64 (C : Int), .int .i64 (R : Int), .slice (some ⟨gD, 0, none⟩) n n] wr ∧ Hid (Img N C (y * C))) (fun s40 _ => R - (intOf s40).toNat)
    case atStart => exact ⟨0, by omega, rfl, by rw [Nat.zero_mul]; exact hF, by rw [Nat.zero_mul]; exact Img.zero N C⟩
    case round =>
     obtain ⟨y, hy, rfl, hS, hI⟩ := hrel
     clear hF
     by_cases hyR : y < R
     ·have hyi : (y : Int) < (R : Int) := by omega
      go_wp2
      go_loopw [44] (fun s44 wr => ∃ x : Nat, x ≤ C ∧ s44 = .int .i64 x ∧ FilP v4 gD (sofB ds (y * C + x)) gR [.int .i64 (C : Int), .int .i64 (R : Int), .slice (some ⟨gD, 0, none⟩) n n] wr ∧ Hid (Img N C (y * C + x))) (fun s44 _ => C - (intOf s44).toNat)
      case atStart => exact ⟨0, by omega, rfl, hS, hI⟩
      case round =>
       obtain ⟨x, hx, rfl, hS, hI⟩ := hrel
       by_cases hxC : x < C
       ·have hxi : (x : Int) < (C : Int) := by omega
        obtain ⟨HB, ⟨c0, c1, c2⟩, ⟨r2, zn2⟩, ⟨g0, g1⟩, hG⟩ := HU.out wr hS.f.b
        have HAt := hid (fun (W : World) (h : Below wr.heap.size wr W) => Sat_g hN9 hNz (hG.below h) (x : Int) (y : Int) ⟨by omega, by omega⟩ ⟨by omega, by omega⟩)
        have hpl := place hxC hyR
        have hk : y * C + x < ds.length := by rw [hdl.out, hn.out]; exact hpl
        have hkn0 : y * C + x < n := by rw [hn.out]; exact hpl
        have hdk := hid (hdg.out x y hxC hyR hk)
        have ltg := Kd g0
        have q2 : wr.cell? ⟨gR, 2, none⟩ = some (.slice (some ⟨gD, 0, none⟩) n n) := hS.r 2 _ rfl
        have d0 := hS.f.cell (j := y * C + x) (by rw [Xv _ _ (by omega)]; exact hk)
        have HS := hid hS
        have HI := hid hI
        clear hS hI hG
        cases hq : posZ N x y with
        | none =>
         obtain ⟨p1, p2, p3⟩ := hnone.out x y hq
         rw [p1] at HAt
         have HR := hid (hQ0.out (hap.out x y hxC hyR hq)).symm
         clear hdk d0 q2 HS HI hq p1 p2 p3 hQ0 hQ1 hap hsome hnone
         go_wp2_with fail
         refine (HAt.out wr (Below.refl _ _)).mono ?_
         rintro e w1 ⟨rfl, hw1⟩
         have r2 := Ke r2 hw1
         have zn2 := zn2.below hw1
         have HB := Kb HB hw1
         dsimp only
         go_upto_region 14 with fail
         refine Qh (P := fun u => Code.wp _ _ _ _ u) ?_
         intro w2 hw2 s0 s1 zs_ hsz
         have r2 := Ke r2 hw2
         have zn2 := zn2.below hw2
         have HB := Kb HB hw2
         clear hw1 hw2 s0 s1 zs_ hsz HAt HU HDk g0 g1 c0 c1 c2
         have k0 : (w2).cell? ⟨w.heap.size + 1 + 1, 0, none⟩ = some (.int .i64 0) := r2 0 _ rfl
         have k1 : (w2).cell? ⟨w.heap.size + 1 + 1, 1, none⟩ = some (.int .i64 0) := r2 1 _ rfl
         have k2 : (w2).cell? ⟨w.heap.size + 1 + 1, 2, none⟩ = some (.slice none 0 0) := r2 2 _ rfl
         have ltk := Kd k0
         have fk := zn2.fr
         have HBf := hid (Kg (Kg (Kg HB (show w.heap.size ≤ w.heap.size + 1 + 1 by omega) 0 (.int .i64 0)) (show w.heap.size ≤ w.heap.size + 1 + 1 by omega) 1 (.int .i64 0)) (show w.heap.size ≤ w.heap.size + 1 + 1 by omega) 2 (.slice none 0 0))
         clear r2 zn2 HB
         go_wp2
         refine bodyPost_ret (v := .tuple #[.agg #[.int .i64 0, .int .i64 0, .slice none 0 0], .int .i64 (24)]) ?_ rfl ?_
         ·simp [results, Tryz.results13, go_sem, k0, k1, k2]
         ·rw [HR.out]
          exact ⟨none, 0, rfl, Mb.nil _, HBf.out⟩
        | some q =>
         obtain ⟨p1, p2⟩ := hsome.out x y q hq
         rw [p1] at HAt
         rw [← p2] at hdk
         have HI' := hid (HI.out.next hxC (by rw [hq]; simp))
         have HDk1 := hid fun (W : World) (h : Below wr.heap.size wr W) => HDk.out W (Kb HB h) (clP q.1) (clP q.2)
         generalize clP q.1 = px at *
         generalize clP q.2 = py at *
         generalize pixZ m px py = pv at *
         have e1 : IntKind.i64.wrap ((y : Int) * (C : Int)) = (y : Int) * (C : Int) := by rw [IntKind.wrap_i64, ← Int.natCast_mul]; omega
         have e2 : IntKind.i64.wrap ((y : Int) * (C : Int) + (x : Int)) = ((y * C + x : Nat) : Int) := by rw [IntKind.wrap_i64, ← Int.natCast_mul]; omega
         have hkn : ((y * C + x : Nat) : Int) < (n : Int) := by omega
         have hst := hid (De ds (y * C + x) hk)
         rw [hdk.out] at hst
         have hst1 : y * C + (x + 1) = y * C + x + 1 := by omega
         rw [← hst1] at hst
         clear p1 p2 hq HI hdk hQ0 hQ1 hap hsome hnone hst1 r2 zn2
         generalize (sofB ds (y * C + x))[y * C + x]'(by rw [Xv _ _ (by omega)]; exact hk) = dv at d0
         obtain ⟨K, hK⟩ : ∃ K, K = y * C + x := ⟨_, rfl⟩
         rw [← hK] at e2 hkn d0
         replace hK := hid hK
         have hdw0 := Kd d0
         go_wp2_with fail
         refine (HAt.out wr (Below.refl _ _)).mono ?_
         rintro e w1 ⟨rfl, hw1⟩
         have hs1_ := hw1.size
         dsimp only
         go_upto_region 14 with fail
         refine Qh (P := fun u => Code.wp _ _ _ _ u) ?_
         intro w2 hw2 s0 s1 zs_ hsz
         have h12 := Kb hw1 hw2
         have c0 := Ka h12 c0
         have c1 := Ka h12 c1
         have c2 := Ka h12 c2
         have q2 := Ka h12 q2
         have d0 := Ka h12 d0
         have ltd := Kd d0
         have ltq := Kd q2
         have ltc := Kd c0
         have fd := (HS.out.f.z.below h12).fr
         clear zs_ hsz hw1 hw2 HAt g0 g1
         have hdw : gD < w1.heap.size := by omega
         go_upto_region 16 with fail
         go_region_held3 (fun w' => w'.cell? ⟨gR, 2, none⟩ = some (.slice (some ⟨gD, 0, none⟩) n n) ∧ (w'.cell? ⟨w.heap.size, 0, none⟩ = some (.int .i64 m.w) ∧ w'.cell? ⟨w.heap.size, 1, none⟩ = some (.int .i64 m.h) ∧ w'.cell? ⟨w.heap.size, 2, none⟩ = some (.slice A m.d.length c)) ∧ (w'.cell? ⟨w1.heap.size, 0, none⟩ = some (.int .i64 px) ∧ w'.cell? ⟨w1.heap.size, 1, none⟩ = some (.int .i64 py))) (first | ((try dsimp only); repeat' (first | with_reducible assumption | apply And.intro | (with_reducible refine Kk ?_) | (with_reducible refine Kn ?_) | (with_reducible refine Kh (by omega) ?_) | (with_reducible refine Kp (by omega) ?_) | (with_reducible refine Ka (W := w2) ?_ ?_) | fail))) (first | (go_at_call 35; (with_reducible refine (HDk1.out _ (Kb h12 BG)).mono ?_); rintro e y1 ⟨rfl, hq_⟩; have qy1 : Below w2.heap.size w2 y1 := Kb BG hq_; have d0 := Ka qy1 d0; have fd := (HS.out.f.z.below (Kb h12 qy1)).fr; have ltd := Kd d0))
         all_goals
          have hF5 := (HS.out.below (Kb h12 qy1)).set (j := y * C + x) (by rw [Xv _ _ (by omega)]; exact hk) pv
          rw [hst.out, ← hK.out] at hF5
          have hF5 := hid hF5
          go_wp2
          go_roundw
          case rel => exact ⟨x + 1, by omega, by go_num, hF5.out, HI'⟩
          case measure => simp [intOf]; omega
       ·obtain rfl : x = C := by omega
        have e1 : y * x + x = (y + 1) * x := by rw [Nat.add_mul, Nat.one_mul]
        have hI' := hid (hI.out.row)
        rw [e1] at hS
        go_wp2
        go_roundw
        case rel => exact ⟨y + 1, by omega, by go_num, hS, hI'⟩
        case measure => simp [intOf]; omega
     ·obtain rfl : y = R := by omega
      have hHQ := hid (hQ1.out hI.out.all).symm
      obtain ⟨HB, ⟨c0, c1, c2⟩, ⟨r2, zn2⟩, ⟨g0, g1⟩, hG⟩ := HU.out wr hS.f.b
      have q0 : wr.cell? ⟨gR, 0, none⟩ = some (.int .i64 (C : Int)) := hS.r 0 _ rfl
      have q1 : wr.cell? ⟨gR, 1, none⟩ = some (.int .i64 (y : Int)) := hS.r 1 _ rfl
      have q2 : wr.cell? ⟨gR, 2, none⟩ = some (.slice (some ⟨gD, 0, none⟩) n n) := hS.r 2 _ rfl
      have ltq := Kd q0
      have hrD := hS.f.r
      have hzD := hS.f.z.lt
      rw [show y * C = ds.length by rw [hdl.out, hn.out, Nat.mul_comm], sofB_all] at hrD
      have k0 : wr.cell? ⟨w.heap.size + 1 + 1, 0, none⟩ = some (.int .i64 0) := r2 0 _ rfl
      have k1 : wr.cell? ⟨w.heap.size + 1 + 1, 1, none⟩ = some (.int .i64 0) := r2 1 _ rfl
      have k2 : wr.cell? ⟨w.heap.size + 1 + 1, 2, none⟩ = some (.slice none 0 0) := r2 2 _ rfl
      have ltk := Kd k0
      have fk := zn2.fr
      have hne : w.heap.size + 1 + 1 ≠ gD := by omega
      have HBf := hid (Kg (Kg (Kg HB (show w.heap.size ≤ w.heap.size + 1 + 1 by omega) 0 (.int .i64 (C : Int))) (show w.heap.size ≤ w.heap.size + 1 + 1 by omega) 1 (.int .i64 (y : Int))) (show w.heap.size ≤ w.heap.size + 1 + 1 by omega) 2 (.slice (some ⟨gD, 0, none⟩) n n))
      have HMf := hid (Mb.of_rng (c := n) (Jh (k := w.heap.size + 1 + 1) (i := 2) (v := .slice (some ⟨gD, 0, none⟩) n n) (Jh (k := w.heap.size + 1 + 1) (i := 1) (v := .int .i64 (y : Int)) (Jh (k := w.heap.size + 1 + 1) (i := 0) (v := .int .i64 (C : Int)) hrD hne) hne) hne) (by simpa using hzD) (by rw [hdl.out]; omega) (by omega))
      clear r2 zn2 HB hrD hS hG hI HU HDk hap hsome hnone hdg hQ0 hQ1
      go_wp2
      refine bodyPost_ret (v := .tuple #[.agg #[.int .i64 (C : Int), .int .i64 (y : Int), .slice (some ⟨gD, 0, none⟩) n n], .int .i64 0]) ?_ rfl ?_
      ·simp [results, Tryz.results13, go_sem, k0, k1, k2]
      ·rw [hHQ.out]
       exact ⟨_, n, by rw [← hdl.out], HMf.out, HBf.out⟩
def bakZ (fs : List Rf) : List Int := redZ (adjZ (nrmZ fs))
theorem inv_rf {fs rf : List Rf} {w : World} (h9 : fs.length = 9) (hv : nrmB fs = true) (h0 : (oneE adjZ fs).2 = 0) (hz : (zl rf).map (·.z) = (oneE adjZ fs).1) (ho : ∀ e ∈ zl rf, e.ok w) : nrmB rf = true ∧ nrmZ rf = bakZ fs := by
 have e : oneE adjZ fs = resZ (adjZ (nrmZ fs)) := by unfold oneE; rw [if_pos hv]
 have H := resZ_hom e (Ws (Jf h9)) h0 hz ho
 exact ⟨H.b.2 (by rw [detZ_adj (Jf h9)]; exact Int.mul_ne_zero (Zo hv).2 (Zo hv).2), H.n⟩
theorem Ho {fs : List Rf} (hv : nrmB fs = true) : (oneE adjZ fs).2 = 0 ∨ (oneE adjZ fs).2 = 4 := by
 unfold oneE
 rw [if_pos hv]
 exact resZ_err _
set_option maxRecDepth 100000 in
set_option maxHeartbeats 8000000 in
theorem Ef {m : Bm} {A : Option Addr} {c : Nat} (fs : List Rf) (h9 : fs.length = 9) {w : World} (hb : Mb w A c m.d) (hm : ∀ f ∈ fs, f.mg w) (cols rows : Int) :
  Calls Tryz.prog 16 #[.agg #[.int .i64 m.w, .int .i64 m.h, .slice A m.d.length c], .agg (Kc (zl fs)).toArray, .int .i64 cols, .int .i64 rows] w (D7 w (wrpE m (nrmB fs) (oneE adjZ fs).2 (bakZ fs) cols rows)) := by
 have hi := hid (show (Tryz.prog.info? 32).map (·.size) = some (Kc (zl fs)).length by rw [Kf, Ky, h9]; exact T32i)
 obtain ⟨P, hP⟩ : ∃ P, wrpE m (nrmB fs) (oneE adjZ fs).2 (bakZ fs) cols rows = P := ⟨_, rfl⟩
 have hQ : Hid (wrpE m (nrmB fs) (oneE adjZ fs).2 (bakZ fs) cols rows = P) := hP
 rw [hP]
 clear hP
 have HCk := hid fun (W : World) => RCheck_g m A c W
 have HVa := hid fun (W : World) (h : Below w.heap.size w W) => V7 fs h9 (w := W) (fun f hf => (hm f hf).below h)
 have HPo := hid fun (W : World) => Z4 cols rows W
 have HIv := hid fun (W : World) (h : Below w.heap.size w W) => Ha h9 (w := W) (fun f hf => (hm f hf).below h)
 have HDk := hid fun (hm : bmB m = true) (W : World) (h : Below w.heap.size w W) => Sdark_g hm (hb.below h)
 have hIR := hid fun (hv : nrmB fs = true) (h0 : (oneE adjZ fs).2 = 0) (rf : List Rf) (W : World) => inv_rf (rf := rf) (w := W) h9 hv h0
 have hIE := hid (Ho (fs := fs))
 unfold ckE at HCk
 have hmc := hb.cap
 have hmx := hb.max
 obtain ⟨⟨qz, qe⟩, hq1⟩ : ∃ q, oneE adjZ fs = q := ⟨_, rfl⟩
 rw [hq1] at HIv hIR hIE hQ
 clear hm hb h9 hq1
 have hFl : ∀ (v : World) (rf : List Rf), rf.length = 9 → (storeCells ⟨v.heap.size, 0, none⟩ (Kc (zl rf))).run Tryz.prog (v.alloc (.cells (Kc Kj).toArray 32)) = .ok () (v.alloc (.cells (Kc (zl rf)).toArray 32)) := fun v rf h => Jw (P := Tryz.prog) (w := v) (l := zl rf) (zs := Kc Kj) 32 (by rw [Kf, Ky, h]; rfl) T32i
 simp only [Kj, List.replicate, Kc, ZE.cells, ZE.zero, List.cons_append, List.nil_append] at hFl
 have hFl := hid hFl
 obtain ⟨d32, hU32, row32⟩ := T32u
 go_enter Tryz.func16, Tryz.ntmps16
 go_upto_region 1 with fail
 refine X5 (P := fun u => Code.wp _ _ _ _ u) (c0 := [.int .i64 m.w, .int .i64 m.h, .slice A m.d.length c]) (c2 := [.int .i64 0, .int .i64 0, .slice none 0 0]) ?_
 intro u HB r0 r1 r2 zn0 zn1 zn2 hsz
 clear hsz zn0 zn1
 have r2 : u.rangeAt (w.heap.size + 1 + 1) 0 [.int .i64 0, .int .i64 0, .slice none 0 0] := r2
 have c0 : (u).cell? ⟨w.heap.size, 0, none⟩ = some (.int .i64 m.w) := r0 0 _ rfl
 have c1 : (u).cell? ⟨w.heap.size, 1, none⟩ = some (.int .i64 m.h) := r0 1 _ rfl
 have c2 : (u).cell? ⟨w.heap.size, 2, none⟩ = some (.slice A m.d.length c) := r0 2 _ rfl
 go_wp2_with fail
 refine (HCk.out u).mono ?_
 rintro e v ⟨rfl, hv⟩
 have r1 := Ke r1 hv
 have r2 := Ke r2 hv
 have zn2 := zn2.below hv
 have HB := Kb HB hv
 have c0 := Ka hv c0
 have c1 := Ka hv c1
 have c2 := Ka hv c2
 clear HCk hv r0
 cases hbm : bmB m
 ·have HR : Hid (P = (noB, 1)) := by unfold Hid; rw [← hQ.out]; unfold wrpE; rw [hbm]; rfl
  clear hQ HVa HPo HIv HDk hIR hIE
  simp only [Bool.false_eq_true, if_false]
  have k0 : (v).cell? ⟨w.heap.size + 1 + 1, 0, none⟩ = some (.int .i64 0) := r2 0 _ rfl
  have k1 : (v).cell? ⟨w.heap.size + 1 + 1, 1, none⟩ = some (.int .i64 0) := r2 1 _ rfl
  have k2 : (v).cell? ⟨w.heap.size + 1 + 1, 2, none⟩ = some (.slice none 0 0) := r2 2 _ rfl
  have ltk := Kd k0
  have fk := zn2.fr
  have HBf := hid (Kg (Kg (Kg HB (show w.heap.size ≤ w.heap.size + 1 + 1 by omega) 0 (.int .i64 0)) (show w.heap.size ≤ w.heap.size + 1 + 1 by omega) 1 (.int .i64 0)) (show w.heap.size ≤ w.heap.size + 1 + 1 by omega) 2 (.slice none 0 0))
  clear r2 zn2 HB
  go_wp2
  refine bodyPost_ret (v := .tuple #[.agg #[.int .i64 0, .int .i64 0, .slice none 0 0], .int .i64 (1)]) ?_ rfl ?_
  ·simp [results, Tryz.results16, go_sem, k0, k1, k2]
  ·rw [HR.out]
   exact ⟨none, 0, rfl, Mb.nil _, HBf.out⟩
 ·simp only [if_true]
  go_wp2_with (first | refine Jg (by rfl) _ _ (by rfl) (w.heap.size + 1) 0 (by rfl) (Kc (zl fs)) _ r1 hU32 row32 hi.out ?_ | fail)
  refine (HVa.out v HB).mono ?_
  rintro e v1 ⟨rfl, hv1⟩
  have r1 := Ke r1 hv1
  have r2 := Ke r2 hv1
  have zn2 := zn2.below hv1
  have HB := Kb HB hv1
  have c0 := Ka hv1 c0
  have c1 := Ka hv1 c1
  have c2 := Ka hv1 c2
  clear HVa hv1
  cases hva : nrmB fs
  ·have HR : Hid (P = (noB, 1)) := by unfold Hid; rw [← hQ.out]; unfold wrpE; rw [hva, Bool.and_false]; rfl
   clear hQ HPo HIv HDk hIR hIE
   have k0 : (v1).cell? ⟨w.heap.size + 1 + 1, 0, none⟩ = some (.int .i64 0) := r2 0 _ rfl
   have k1 : (v1).cell? ⟨w.heap.size + 1 + 1, 1, none⟩ = some (.int .i64 0) := r2 1 _ rfl
   have k2 : (v1).cell? ⟨w.heap.size + 1 + 1, 2, none⟩ = some (.slice none 0 0) := r2 2 _ rfl
   have ltk := Kd k0
   have fk := zn2.fr
   have HBf := hid (Kg (Kg (Kg HB (show w.heap.size ≤ w.heap.size + 1 + 1 by omega) 0 (.int .i64 0)) (show w.heap.size ≤ w.heap.size + 1 + 1 by omega) 1 (.int .i64 0)) (show w.heap.size ≤ w.heap.size + 1 + 1 by omega) 2 (.slice none 0 0))
   clear r2 zn2 HB
   go_wp2
   refine bodyPost_ret (v := .tuple #[.agg #[.int .i64 0, .int .i64 0, .slice none 0 0], .int .i64 (1)]) ?_ rfl ?_
   ·simp [results, Tryz.results16, go_sem, k0, k1, k2]
   ·rw [HR.out]
    exact ⟨none, 0, rfl, Mb.nil _, HBf.out⟩
  ·go_wp2_with fail
   refine (HPo.out v1).mono ?_
   rintro e v2 ⟨rfl, hv2⟩
   have r1 := Ke r1 hv2
   have r2 := Ke r2 hv2
   have zn2 := zn2.below hv2
   have HB := Kb HB hv2
   have c0 := Ka hv2 c0
   have c1 := Ka hv2 c1
   have c2 := Ka hv2 c2
   clear HPo hv2
   cases hs : J9 cols rows
   ·have HR : Hid (P = (noB, 23)) := by unfold Hid; rw [← hQ.out]; unfold wrpE; rw [hbm, hva, hs]; rfl
    clear hQ HIv HDk hIR hIE
    have k0 : (v2).cell? ⟨w.heap.size + 1 + 1, 0, none⟩ = some (.int .i64 0) := r2 0 _ rfl
    have k1 : (v2).cell? ⟨w.heap.size + 1 + 1, 1, none⟩ = some (.int .i64 0) := r2 1 _ rfl
    have k2 : (v2).cell? ⟨w.heap.size + 1 + 1, 2, none⟩ = some (.slice none 0 0) := r2 2 _ rfl
    have ltk := Kd k0
    have fk := zn2.fr
    have HBf := hid (Kg (Kg (Kg HB (show w.heap.size ≤ w.heap.size + 1 + 1 by omega) 0 (.int .i64 0)) (show w.heap.size ≤ w.heap.size + 1 + 1 by omega) 1 (.int .i64 0)) (show w.heap.size ≤ w.heap.size + 1 + 1 by omega) 2 (.slice none 0 0))
    clear r2 zn2 HB
    go_wp2
    refine bodyPost_ret (v := .tuple #[.agg #[.int .i64 0, .int .i64 0, .slice none 0 0], .int .i64 (23)]) ?_ rfl ?_
    ·simp [results, Tryz.results16, go_sem, k0, k1, k2]
    ·rw [HR.out]
     exact ⟨none, 0, rfl, Mb.nil _, HBf.out⟩
   ·go_wp2_with (first | refine wpList_load_mid (by rfl) _ _ (by rfl) (w.heap.size + 1) 0 (by rfl) (Kc (zl fs)) _ r1 hU32 row32 hi.out ?_ | fail)
    refine (HIv.out v2 HB).mono ?_
    rintro e x1 ⟨rf1, h91, rfl, hz1, ok1, mg1, hq_⟩
    have F1 := hFl.out x1 rf1 h91
    have h361 : (Kc (zl rf1)).length = 36 := by rw [Kf, Ky, h91]
    go_upto_region 6 with fail
    refine Kw (P := fun u => Code.wp _ _ _ _ u) ?_
    intro v3 hv_ s1 sz_ hsz
    have qv3 := Kb hq_ hv_
    have lx1 : x1.heap.size < v3.heap.size := sz_.lt
    have hi1 := hid (show (Tryz.prog.info? 32).map (·.size) = some (Kc (zl rf1)).length by rw [h361]; exact T32i)
    have r2 := Ke r2 qv3
    have ok1 : ∀ e ∈ zl rf1, e.ok v3 := fun e he => (ok1 e he).below hv_
    have mg1 : ∀ f ∈ rf1, f.mg v3 := fun f hf => (mg1 f hf).below hv_
    have HB := Kb HB qv3
    clear F1 sz_ hsz hv_ hq_ h361
    have zn2 := zn2.below qv3
    have c0 := Ka qv3 c0
    have c1 := Ka qv3 c1
    have c2 := Ka qv3 c2
    have hIR := hid (hIR.out hva)
    have hIE := hIE.out hva
    clear HIv r1
    rcases hIE with rfl | rfl
    case inr =>
     have HR : Hid (P = (noB, 4)) := by unfold Hid; rw [← hQ.out]; unfold wrpE; rw [hbm, hva, hs]; rfl
     clear hQ HDk hIR s1 ok1 mg1 hz1
     have k0 : (v3).cell? ⟨w.heap.size + 1 + 1, 0, none⟩ = some (.int .i64 0) := r2 0 _ rfl
     have k1 : (v3).cell? ⟨w.heap.size + 1 + 1, 1, none⟩ = some (.int .i64 0) := r2 1 _ rfl
     have k2 : (v3).cell? ⟨w.heap.size + 1 + 1, 2, none⟩ = some (.slice none 0 0) := r2 2 _ rfl
     have ltk := Kd k0
     have fk := zn2.fr
     have HBf := hid (Kg (Kg (Kg HB (show w.heap.size ≤ w.heap.size + 1 + 1 by omega) 0 (.int .i64 0)) (show w.heap.size ≤ w.heap.size + 1 + 1 by omega) 1 (.int .i64 0)) (show w.heap.size ≤ w.heap.size + 1 + 1 by omega) 2 (.slice none 0 0))
     clear r2 zn2 HB
     go_wp2
     refine bodyPost_ret (v := .tuple #[.agg #[.int .i64 0, .int .i64 0, .slice none 0 0], .int .i64 (4)]) ?_ rfl ?_
     ·simp [results, Tryz.results16, go_sem, k0, k1, k2]
     ·rw [HR.out]
      exact ⟨none, 0, rfl, Mb.nil _, HBf.out⟩
    obtain ⟨hv1_, hn1_⟩ := hIR.out rfl rf1 v3 hz1 ok1
    have HNG := hid fun (W : World) (h : Below v3.heap.size v3 W) => Z7 rf1 h91 (w := W) (fun f hf => (mg1 f hf).below h) hv1_
    obtain ⟨hN9, hNz⟩ := Xy h91 hv1_
    rw [hn1_] at HNG hN9 hNz
    clear hIR hn1_ hv1_ hz1 ok1 mg1
    obtain ⟨a1, a2, a3, a4, a5⟩ := Jj.1 hs
    obtain ⟨C, rfl⟩ := Int.eq_ofNat_of_zero_le (show 0 ≤ cols by omega)
    obtain ⟨R, rfl⟩ := Int.eq_ofNat_of_zero_le (show 0 ≤ rows by omega)
    have hw36 := Y8 hs
    obtain ⟨n, hn⟩ : ∃ n, n = C * R := ⟨_, rfl⟩
    have hpn : (C : Int) * (R : Int) = (n : Int) := by rw [hn, Int.natCast_mul]
    have hmk' := fun (W : World) => makeB W n (by omega) (n : Int) rfl
    obtain ⟨ds, hds⟩ : ∃ ds, ds = smpL m (bakZ fs) (C : Int) (R : Int) := ⟨_, rfl⟩
    have hdl : ds.length = n := by rw [hds, Wo, hpn, Int.toNat_natCast]
    have hdg := hid fun (x y : Nat) (hx : x < C) (hy : y < R) (h : y * C + x < ds.length) => (show ds[y * C + x] = atB m (bakZ fs) ((x : Int), (y : Int)) by subst hds; exact Vx hx hy h)
    have hQ1 := hid (show (⟨(C : Int), (R : Int), ds⟩, 0) = P by rw [← hQ.out]; unfold wrpE; rw [hbm, hva, hs, hds]; rfl)
    replace hw36 := hw36.trans hpn
    have hn4 : n ≤ 4194304 := by omega
    replace hn := hid hn
    replace hdl := hid hdl
    clear hpn a1 a3 a5
    go_wp2_with (first | refine wpList_load_mid (by rfl) _ _ (by rfl) x1.heap.size 0 (by rfl) (Kc (zl rf1)) _ s1 hU32 row32 hi1.out ?_ | fail)
    refine (HNG.out v3 (Below.refl _ _)).mono ?_
    rintro e v4 ⟨A1, c1_, B1, k1_, d1_, rfl, hG, hv4⟩
    have r2 := Ke r2 hv4
    have zn2 := zn2.below hv4
    have HB := Kb HB hv4
    have c0 := Ka hv4 c0
    have c1 := Ka hv4 c1
    have c2 := Ka hv4 c2
    have HDk := hid (HDk.out hbm)
    have hsome := hid fun (x y : Int) (q : Int × Int) (h : posZ (bakZ fs) x y = some q) => atB_some hbm h
    have hnone := hid fun (x y : Int) (h : posZ (bakZ fs) x y = none) => Dy (m := m) h
    clear HNG hQ hv4 s1 hs hva hbm hds
    generalize bakZ fs = N at *
    go_upto_region 9 with fail
    refine Qh (P := fun u => Code.wp _ _ _ _ u) ?_
    intro v5 hv5 g0 g1 zg hsz
    have r2 := Ke r2 hv5
    have zn2 := zn2.below hv5
    have HB := Kb HB hv5
    have c0 := Ka hv5 c0
    have c1 := Ka hv5 c1
    have c2 := Ka hv5 c2
    have hG := hG.below hv5
    clear zg hsz hv5
    have HU := hid fun (W : World) (h : Below v5.heap.size v5 W) => And.intro (Kb HB h) (And.intro (And.intro (Ka h c0) (And.intro (Ka h c1) (Ka h c2))) (And.intro (And.intro (Ke r2 h) (zn2.below h)) (And.intro (And.intro (Ka h g0) (Ka h g1)) (hG.below h))))
    have hlr := zn2.lt
    have hlg := Kd g0
    have hmk := hmk' v5
    clear hmk' c0 c1 c2 r2 zn2 HB g0 g1 hG
    go_upto_region 10 with fail
    clear hmk
    rw [show Array.replicate n (bv false) = ((List.replicate n false).map bv).toArray from by simp]
    refine Jc (P := fun u => Code.wp _ _ _ _ u) (c0 := (List.replicate n false).map bv) (c1 := [.int .i64 (C : Int), .int .i64 (R : Int), .slice (some ⟨v5.heap.size, 0, none⟩) n n]) ?_
    intro v6 hv6 rd rr zd zr hsz
    have hF : FilP v5 v5.heap.size (sofB ds 0) (v5.heap.size + 1) [.int .i64 (C : Int), .int .i64 (R : Int), .slice (some ⟨v5.heap.size, 0, none⟩) n n] v6 := ⟨⟨hv6, zd, Nat.le_refl _, by rw [sofB_none, hdl.out]; exact rd⟩, rr, zr, by omega, by omega⟩
    obtain ⟨gD, hgD⟩ : ∃ g, g = v5.heap.size := ⟨_, rfl⟩
    obtain ⟨gR, hgR⟩ : ∃ g, g = v5.heap.size + 1 := ⟨_, rfl⟩
    rw [← hgR] at hF ⊢
    rw [← hgD] at hF hlr hlg ⊢
    have hgRD : gD < gR := by omega
    clear hv6 rd rr zd zr hsz hgD hgR
    go_wp2
    go_loopw [51] (fun s51 wr => ∃ y : Nat, y ≤ R ∧ s51 = .int .i64 y ∧ FilP v5 gD (sofB ds (y * C)) gR [.int .i64 (C : Int), .int .i64 (R : Int), .slice (some ⟨gD, 0, none⟩) n n] wr) (fun s51 _ => R - (intOf s51).toNat)
    case atStart => exact ⟨0, by omega, rfl, by rw [Nat.zero_mul]; exact hF⟩
    case round =>
     obtain ⟨y, hy, rfl, hS⟩ := hrel
     clear hF
     by_cases hyR : y < R
     ·have hyi : (y : Int) < (R : Int) := by omega
      go_wp2
      go_loopw [55] (fun s55 wr => ∃ x : Nat, x ≤ C ∧ s55 = .int .i64 x ∧ FilP v5 gD (sofB ds (y * C + x)) gR [.int .i64 (C : Int), .int .i64 (R : Int), .slice (some ⟨gD, 0, none⟩) n n] wr) (fun s55 _ => C - (intOf s55).toNat)
      case atStart => exact ⟨0, by omega, rfl, hS⟩
      case round =>
       obtain ⟨x, hx, rfl, hS⟩ := hrel
       by_cases hxC : x < C
       ·have hxi : (x : Int) < (C : Int) := by omega
        obtain ⟨HB, ⟨c0, c1, c2⟩, ⟨r2, zn2⟩, ⟨g0, g1⟩, hG⟩ := HU.out wr hS.f.b
        have HAt := hid (fun (W : World) (h : Below wr.heap.size wr W) => Sat_g hN9 hNz (hG.below h) (x : Int) (y : Int) ⟨by omega, by omega⟩ ⟨by omega, by omega⟩)
        have hpl := place hxC hyR
        have hk : y * C + x < ds.length := by rw [hdl.out, hn.out]; exact hpl
        have hkn0 : y * C + x < n := by rw [hn.out]; exact hpl
        have hdk := hid (hdg.out x y hxC hyR hk)
        have ltg := Kd g0
        have q2 : wr.cell? ⟨gR, 2, none⟩ = some (.slice (some ⟨gD, 0, none⟩) n n) := hS.r 2 _ rfl
        have d0 := hS.f.cell (j := y * C + x) (by rw [Xv _ _ (by omega)]; exact hk)
        have HS := hid hS
        clear hS hG
        cases hq : posZ N x y with
        | none =>
         obtain ⟨p1, p2, p3⟩ := hnone.out x y hq
         rw [p1] at HAt
         rw [p3] at hdk
         have e1 : IntKind.i64.wrap ((y : Int) * (C : Int)) = (y : Int) * (C : Int) := by rw [IntKind.wrap_i64, ← Int.natCast_mul]; omega
         have e2 : IntKind.i64.wrap ((y : Int) * (C : Int) + (x : Int)) = ((y * C + x : Nat) : Int) := by rw [IntKind.wrap_i64, ← Int.natCast_mul]; omega
         have hkn : ((y * C + x : Nat) : Int) < (n : Int) := by omega
         have hst := hid (De ds (y * C + x) hk)
         rw [hdk.out] at hst
         have hst1 : y * C + (x + 1) = y * C + x + 1 := by omega
         rw [← hst1] at hst
         clear p1 p2 hq hdk hQ1 hsome hnone hst1 r2 zn2
         generalize (sofB ds (y * C + x))[y * C + x]'(by rw [Xv _ _ (by omega)]; exact hk) = dv at d0
         obtain ⟨K, hK⟩ : ∃ K, K = y * C + x := ⟨_, rfl⟩
         rw [← hK] at e2 hkn d0
         replace hK := hid hK
         have hdw0 := Kd d0
         go_wp2_with fail
         refine (HAt.out wr (Below.refl _ _)).mono ?_
         rintro e w1 ⟨rfl, hw1⟩
         have hs1_ := hw1.size
         dsimp only
         go_upto_region 17 with fail
         refine Qh (P := fun u => Code.wp _ _ _ _ u) ?_
         intro w2 hw2 s0 s1 zs_ hsz
         have h12 := Kb hw1 hw2
         have c0 := Ka h12 c0
         have c1 := Ka h12 c1
         have c2 := Ka h12 c2
         have q2 := Ka h12 q2
         have d0 := Ka h12 d0
         have ltd := Kd d0
         have ltq := Kd q2
         have ltc := Kd c0
         have fd := (HS.out.f.z.below h12).fr
         clear zs_ hsz hw1 hw2 HAt g0 g1
         have hdw : gD < w1.heap.size := by omega
         go_upto_region 17 with fail
         refine wp_region_held_drew (S := fun w' => w'.cell? ⟨gR, 2, none⟩ = some (.slice (some ⟨gD, 0, none⟩) n n)) (by kernel_rfl) ?_ (fun hHeld => ?_)
         ·exact q2
         refine' TKa 0 ?_
         refine' TKa 1 ?_
         refine' TKa 2 ?_
         refine' TKa 3 ?_
         refine' TKa 4 ?_
         refine' TKa 5 ?_
         refine' TKa 6 ?_
         refine' TKa 7 ?_
         refine' TKa 8 ?_
         refine' TKs 9 ?_
         refine' TKs 10 ?_
         refine' TKs 11 ?_
         refine' TKa 12 ?_
         refine' TKa 13 ?_
         refine BRa 14 (fun K hK => ?_)
         go_simp
         skip
         (try go_wp2_with fail)
         refine' HKa hK (by (first | ((try dsimp only); repeat' (first | with_reducible assumption | apply And.intro | (with_reducible refine Kk ?_) | (with_reducible refine Kn ?_) | (with_reducible refine Kh (by omega) ?_) | (with_reducible refine Kp (by omega) ?_) | (with_reducible refine Ka (W := w2) ?_ ?_) | fail)))) (fun hHeld => ?_)
         clear hK K
         refine wpAnyH_done (by kernel_rfl) ?_ _
         have hF5 := (HS.out.below (h12.trans ((Below.refl _ _).drew.mono h12.size))).set (j := y * C + x) (by rw [Xv _ _ (by omega)]; exact hk) false
         rw [hst.out, ← hK.out] at hF5
         have hF5 := hid hF5
         clear hHeld
         go_wp2
         go_roundw
         case rel => exact ⟨x + 1, by omega, by go_num, hF5.out⟩
         case measure => simp [intOf]; omega
        | some q =>
         obtain ⟨p1, p2⟩ := hsome.out x y q hq
         rw [p1] at HAt
         rw [← p2] at hdk
         have HDk1 := hid fun (W : World) (h : Below wr.heap.size wr W) => HDk.out W (Kb HB h) (clP q.1) (clP q.2)
         generalize clP q.1 = px at *
         generalize clP q.2 = py at *
         generalize pixZ m px py = pv at *
         have e1 : IntKind.i64.wrap ((y : Int) * (C : Int)) = (y : Int) * (C : Int) := by rw [IntKind.wrap_i64, ← Int.natCast_mul]; omega
         have e2 : IntKind.i64.wrap ((y : Int) * (C : Int) + (x : Int)) = ((y * C + x : Nat) : Int) := by rw [IntKind.wrap_i64, ← Int.natCast_mul]; omega
         have hkn : ((y * C + x : Nat) : Int) < (n : Int) := by omega
         have hst := hid (De ds (y * C + x) hk)
         rw [hdk.out] at hst
         have hst1 : y * C + (x + 1) = y * C + x + 1 := by omega
         rw [← hst1] at hst
         clear p1 p2 hq hdk hQ1 hsome hnone hst1 r2 zn2
         generalize (sofB ds (y * C + x))[y * C + x]'(by rw [Xv _ _ (by omega)]; exact hk) = dv at d0
         obtain ⟨K, hK⟩ : ∃ K, K = y * C + x := ⟨_, rfl⟩
         rw [← hK] at e2 hkn d0
         replace hK := hid hK
         have hdw0 := Kd d0
         go_wp2_with fail
         refine (HAt.out wr (Below.refl _ _)).mono ?_
         rintro e w1 ⟨rfl, hw1⟩
         have hs1_ := hw1.size
         dsimp only
         go_upto_region 17 with fail
         refine Qh (P := fun u => Code.wp _ _ _ _ u) ?_
         intro w2 hw2 s0 s1 zs_ hsz
         have h12 := Kb hw1 hw2
         have c0 := Ka h12 c0
         have c1 := Ka h12 c1
         have c2 := Ka h12 c2
         have q2 := Ka h12 q2
         have d0 := Ka h12 d0
         have ltd := Kd d0
         have ltq := Kd q2
         have ltc := Kd c0
         have fd := (HS.out.f.z.below h12).fr
         clear zs_ hsz hw1 hw2 HAt g0 g1
         have hdw : gD < w1.heap.size := by omega
         go_region_held3 (fun w' => w'.cell? ⟨gR, 2, none⟩ = some (.slice (some ⟨gD, 0, none⟩) n n) ∧ (w'.cell? ⟨w.heap.size, 0, none⟩ = some (.int .i64 m.w) ∧ w'.cell? ⟨w.heap.size, 1, none⟩ = some (.int .i64 m.h) ∧ w'.cell? ⟨w.heap.size, 2, none⟩ = some (.slice A m.d.length c)) ∧ (w'.cell? ⟨w1.heap.size, 0, none⟩ = some (.int .i64 px) ∧ w'.cell? ⟨w1.heap.size, 1, none⟩ = some (.int .i64 py))) (first | ((try dsimp only); repeat' (first | with_reducible assumption | apply And.intro | (with_reducible refine Kk ?_) | (with_reducible refine Kn ?_) | (with_reducible refine Kh (by omega) ?_) | (with_reducible refine Kp (by omega) ?_) | (with_reducible refine Ka (W := w2) ?_ ?_) | fail))) (first | (go_at_call 35; (with_reducible refine (HDk1.out _ (Kb h12 BG)).mono ?_); rintro e y1 ⟨rfl, hq_⟩; have qy1 : Below w2.heap.size w2 y1 := Kb BG hq_; have d0 := Ka qy1 d0; have fd := (HS.out.f.z.below (Kb h12 qy1)).fr; have ltd := Kd d0))
         all_goals
          have hF5 := (HS.out.below (Kb h12 qy1)).set (j := y * C + x) (by rw [Xv _ _ (by omega)]; exact hk) pv
          rw [hst.out, ← hK.out] at hF5
          have hF5 := hid hF5
          go_wp2
          go_roundw
          case rel => exact ⟨x + 1, by omega, by go_num, hF5.out⟩
          case measure => simp [intOf]; omega
       ·obtain rfl : x = C := by omega
        have e1 : y * x + x = (y + 1) * x := by rw [Nat.add_mul, Nat.one_mul]
        rw [e1] at hS
        go_wp2
        go_roundw
        case rel => exact ⟨y + 1, by omega, by go_num, hS⟩
        case measure => simp [intOf]; omega
     ·obtain rfl : y = R := by omega
      have hHQ := hid hQ1.out.symm
      obtain ⟨HB, ⟨c0, c1, c2⟩, ⟨r2, zn2⟩, ⟨g0, g1⟩, hG⟩ := HU.out wr hS.f.b
      have q0 : wr.cell? ⟨gR, 0, none⟩ = some (.int .i64 (C : Int)) := hS.r 0 _ rfl
      have q1 : wr.cell? ⟨gR, 1, none⟩ = some (.int .i64 (y : Int)) := hS.r 1 _ rfl
      have q2 : wr.cell? ⟨gR, 2, none⟩ = some (.slice (some ⟨gD, 0, none⟩) n n) := hS.r 2 _ rfl
      have ltq := Kd q0
      have hrD := hS.f.r
      have hzD := hS.f.z.lt
      rw [show y * C = ds.length by rw [hdl.out, hn.out, Nat.mul_comm], sofB_all] at hrD
      have k0 : wr.cell? ⟨w.heap.size + 1 + 1, 0, none⟩ = some (.int .i64 0) := r2 0 _ rfl
      have k1 : wr.cell? ⟨w.heap.size + 1 + 1, 1, none⟩ = some (.int .i64 0) := r2 1 _ rfl
      have k2 : wr.cell? ⟨w.heap.size + 1 + 1, 2, none⟩ = some (.slice none 0 0) := r2 2 _ rfl
      have ltk := Kd k0
      have fk := zn2.fr
      have hne : w.heap.size + 1 + 1 ≠ gD := by omega
      have HBf := hid (Kg (Kg (Kg HB (show w.heap.size ≤ w.heap.size + 1 + 1 by omega) 0 (.int .i64 (C : Int))) (show w.heap.size ≤ w.heap.size + 1 + 1 by omega) 1 (.int .i64 (y : Int))) (show w.heap.size ≤ w.heap.size + 1 + 1 by omega) 2 (.slice (some ⟨gD, 0, none⟩) n n))
      have HMf := hid (Mb.of_rng (c := n) (Jh (k := w.heap.size + 1 + 1) (i := 2) (v := .slice (some ⟨gD, 0, none⟩) n n) (Jh (k := w.heap.size + 1 + 1) (i := 1) (v := .int .i64 (y : Int)) (Jh (k := w.heap.size + 1 + 1) (i := 0) (v := .int .i64 (C : Int)) hrD hne) hne) hne) (by simpa using hzD) (by rw [hdl.out]; omega) (by omega))
      clear r2 zn2 HB hrD hS hG HU HDk hsome hnone hdg hQ1
      go_wp2
      refine bodyPost_ret (v := .tuple #[.agg #[.int .i64 (C : Int), .int .i64 (y : Int), .slice (some ⟨gD, 0, none⟩) n n], .int .i64 0]) ?_ rfl ?_
      ·simp [results, Tryz.results16, go_sem, k0, k1, k2]
      ·rw [hHQ.out]
       exact ⟨_, n, by rw [← hdl.out], HMf.out, HBf.out⟩
theorem Eb {α : Type} (f : α → Value) (w : World) (x : α) (t : TypeId) : Rd f (w.alloc (.cells #[f x] t)) (some ⟨w.heap.size, 0, none⟩) [x] :=
 Rd.of_blk (heap_alloc_new _ _) (fun j hj => by match j, hj with | 0, _ => rfl)
structure OutP (w : World) (gO : Nat) (C R : Int) (d : List Bool) (wr : World) : Prop where
 b : Below w.heap.size w wr
 hg : w.heap.size ≤ gO
 z : Zn wr gO
 c0 : wr.cell? ⟨gO, 0, none⟩ = some (.int .i64 C)
 c1 : wr.cell? ⟨gO, 1, none⟩ = some (.int .i64 R)
 ex : ∃ B k, wr.cell? ⟨gO, 2, none⟩ = some (.slice B d.length k) ∧ wr.ownsRow (gO + 1) 4 1 (.slice B d.length k) d.length (d.map bv)
theorem OutP.below {w wr w1 : World} {gO : Nat} {C R : Int} {d : List Bool} (h : OutP w gO C R d wr) (hb : Below wr.heap.size wr w1) : OutP w gO C R d w1 := by
 obtain ⟨B, k, h1, h2⟩ := h.ex
 exact ⟨Kb h.b hb, h.hg, h.z.below hb, Ka hb h.c0, Ka hb h.c1, B, k, Ka hb h1, K2 h2 hb⟩
theorem OutP.grow {w y w6 : World} {gO : Nat} {C R : Int} {d d' : List Bool} (h : OutP w gO C R d y) {v5 : Value} (hown : w6.ownsRow (gO + 1) 4 1 v5 d'.length (d'.map bv)) (hb : Below (gO + 1) y w6) :
  ∃ B k, v5 = .slice B d'.length k ∧ (∃ u, w6.cell? ⟨gO, 2, none⟩ = some u) ∧ (∀ i, w6.frozen? ⟨gO, i, none⟩ = false) ∧ gO < w6.heap.size ∧ OutP w gO C R d' (w6.setCell ⟨gO, 2, none⟩ v5) := by
 obtain ⟨B0, k0, q2, _⟩ := h.ex
 obtain ⟨B, k, rfl, _, _, _⟩ := Ut hown
 have kc : ∀ i u, y.cell? ⟨gO, i, none⟩ = some u → w6.cell? ⟨gO, i, none⟩ = some u := fun i u hu => (hb.cell (p := ⟨gO, i, none⟩) (by dsimp only; omega)).trans hu
 have c2 := kc 2 _ q2
 have zd : Zn w6 gO := ⟨Kd c2, fun i => (hb.frozen (p := ⟨gO, i, none⟩) (by dsimp only; omega)).trans (h.z.fr i)⟩
 have hbw : Below w.heap.size w w6 := h.b.trans (hb.mono (Nat.le_trans h.hg (Nat.le_succ _)))
 exact ⟨B, k, rfl, ⟨_, c2⟩, zd.fr, zd.lt, Kg hbw h.hg _ _, h.hg, zd.set_, K6 (by omega) (kc 0 _ h.c0), K6 (by omega) (kc 1 _ h.c1), B, k, Q6 c2, Zx hown (Nat.lt_succ_self gO)⟩
theorem OutP.new {u w1 : World} {gO : Nat} {C R : Int} (hb : Below u.heap.size u w1) (hg : gO = u.heap.size) (r : w1.rangeAt gO 0 [.int .i64 C, .int .i64 R, .slice none 0 0]) (z : Zn w1 gO) : OutP u gO C R [] w1 :=
 ⟨hb, by omega, z, r 0 _ rfl, r 1 _ rfl, none, 0, r 2 _ rfl, World.ownsRow_nil _ _ _ _⟩
theorem own_mb {w : World} {base : Nat} {B : Option Addr} {d : List Bool} {k : Nat} (h : w.ownsRow base 4 1 (.slice B d.length k) d.length (d.map bv)) : Mb w B k d := by
 obtain ⟨A, c, e, h1, h2, h3⟩ := Ut h
 simp only [Value.slice.injEq, true_and] at e
 obtain ⟨rfl, rfl⟩ := e
 exact ⟨h1, h2, h3⟩
end Go.Proofs.YtdkgbkbbbldliaaGreat
