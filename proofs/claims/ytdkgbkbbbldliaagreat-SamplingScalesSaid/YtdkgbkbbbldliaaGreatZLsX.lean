/- The laws on sampling: the examples hold. Conditions: none. -/
import Derived.Test.YtdkgbkbbbldliaaGreatZSJ
import Derived.Test.YtdkgbkbbbldliaaGreatZSO
import Derived.Test.YtdkgbkbbbldliaaGreatZSm15
import Derived.Test.YtdkgbkbbbldliaaGreatZYY
set_option linter.unusedVariables false
set_option linter.unusedSimpArgs false
namespace Go.Proofs.YtdkgbkbbbldliaaGreat
open Go.RowKit Big
theorem two_homs {x : World} {rA rB : List Rf} (hA : rA.length = 9) (hB : rB.length = 9) (oA : ∀ e ∈ zl rA, e.ok x) (oB : ∀ e ∈ zl rB, e.ok x) (t : TypeId) {W1 W2 : World} (e1 : W1 = (x.alloc (.cells (Kc Kj).toArray t)).alloc (.cells (Kc Kj).toArray t)) (e2 : W2 = W1.setCells x.heap.size 0 (Kc (zl rA))) :
  W1.there x.heap.size 0 36 ∧ W2.there (x.heap.size + 1) 0 36 ∧ BlkR x x.heap.size rA (W2.setCells (x.heap.size + 1) 0 (Kc (zl rB))) ∧ BlkR x (x.heap.size + 1) rB (W2.setCells (x.heap.size + 1) 0 (Kc (zl rB))) := by
 have h0 : Below x.heap.size x (x.alloc (.cells (Kc Kj).toArray t)) := (Below.refl _ _).alloc (Nat.le_refl _) _
 have h1 : Below x.heap.size x W1 := by rw [e1]; exact h0.alloc h0.size _
 have hs : (x.alloc (.cells (Kc Kj).toArray t)).heap.size = x.heap.size + 1 := World.size_alloc _ _
 have ra : W1.rangeAt x.heap.size 0 (Kc Kj) := by rw [e1]; exact Ke K4 ((Below.refl _ _).alloc (Nat.le_refl _) _)
 have za : Zn W1 x.heap.size := by rw [e1]; exact Zn.new_.alloc_
 have rb : W1.rangeAt (x.heap.size + 1) 0 (Kc Kj) := by rw [e1, ← hs]; exact K4
 have zb : Zn W1 (x.heap.size + 1) := by rw [e1, ← hs]; exact Zn.new_
 have kA : BlkR x x.heap.size rA W2 := by rw [e2]; exact BlkR.set (cs := Kj) ra za h1 (Nat.le_refl _) (by rw [Ky, hA]; rfl) (fun e he => (oA e he).below h1)
 have rb2 : W2.rangeAt (x.heap.size + 1) 0 (Kc Kj) := by rw [e2]; exact Wv rb (by omega)
 have zb2 : Zn W2 (x.heap.size + 1) := by rw [e2]; exact Zn.sets _ _ _ _ zb
 have oB2 : ∀ e ∈ zl rB, e.ok W2 := fun e he => (oB e he).below kA.b
 have kB := BlkR.set (cs := Kj) rb2 zb2 kA.b (by omega) (by rw [Ky, hB]; rfl) oB2
 have l36 : (Kc Kj).length = 36 := rfl
 refine ⟨Kq ra za, Kq rb2 zb2, ⟨kB.b, Nat.le_refl _, Wv kA.r (by omega), Zn.sets _ _ _ _ kA.z, fun e he => ?_, fun f hf => ?_⟩, kB⟩
 ·exact (kA.ok e he).sets rb2 (by rw [Kf, Kf, Ky, hB]; decide) (Js _)
 ·have : ∀ e ∈ zl rA, e.ok (W2.setCells (x.heap.size + 1) 0 (Kc (zl rB))) := fun e he => (kA.ok e he).sets rb2 (by rw [Kf, Kf, Ky, hB]; decide) (Js _)
  exact rf_mg this f hf
theorem Mb.one {W : World} {A : Option Addr} {c : Nat} {d : List Bool} (h : Mb W A c d) (hl : 0 < d.length) : ∃ b o, A = some ⟨b, o, none⟩ ∧ ∀ k t, d[k]? = some t → W.cell? ⟨b, o + k, none⟩ = some (.bool t) := by
 obtain ⟨b, o, e, _⟩ := h.at_ hl
 refine ⟨b, o, e, fun k t hk => ?_⟩
 obtain ⟨hk', rfl⟩ := List.getElem?_eq_some_iff.1 hk
 obtain ⟨b', o', e', hc⟩ := h.at_ hk'
 rw [e] at e'
 simp only [Option.some.injEq, Addr.mk.injEq] at e'
 obtain ⟨rfl, rfl, _⟩ := e'
 exact hc
theorem Mb.set {w : World} {A : Option Addr} {c : Nat} {d : List Bool} (h : Mb w A c d) {g i : Nat} {u x : Value} (h0 : w.cell? ⟨g, i, none⟩ = some u) (hu : ∀ t, u ≠ .bool t) : Mb (w.setCell ⟨g, i, none⟩ x) A c d :=
 ⟨h.cap, h.max, fun hl => by
  obtain ⟨b, o, e, hb, hc⟩ := h.rd hl
  refine ⟨b, o, e, by simpa using hb, fun j hj => ?_⟩
  have h1 := hc j hj
  by_cases hg : b = g
  ·subst hg
   by_cases hi : i = o + j
   ·subst hi
    rw [h0] at h1
    exact absurd (Option.some.inj h1) (hu _)
   ·exact K6 hi h1
  ·exact Kh (fun e => hg e.symm) h1⟩
theorem FilV.three {v W : World} {g : Nat} {a b c : Value} (h : FilV v g [a, b, c] W) : W.cell? ⟨g, 0, none⟩ = some a ∧ W.cell? ⟨g, 1, none⟩ = some b ∧ W.cell? ⟨g, 2, none⟩ = some c := ⟨h.cell (j := 0) (by simp), h.cell (j := 1) (by simp), h.cell (j := 2) (by simp)⟩
theorem FilV.put3 {v W : World} {g : Nat} {a b : Int} {S : Option Addr} {n m : Nat} (h : FilV v g [.int .i64 a, .int .i64 b, .slice S n m] W) (x y z : Value) :
  FilV v g [x, y, z] (((W.setCell ⟨g, 0, none⟩ x).setCell ⟨g, 1, none⟩ y).setCell ⟨g, 2, none⟩ z) ∧ ∀ A c d, Mb W A c d → Mb (((W.setCell ⟨g, 0, none⟩ x).setCell ⟨g, 1, none⟩ y).setCell ⟨g, 2, none⟩ z) A c d := by
 have c0 : W.cell? ⟨g, 0, none⟩ = some (.int .i64 a) := h.cell (j := 0) (by simp)
 have c1 : W.cell? ⟨g, 1, none⟩ = some (.int .i64 b) := h.cell (j := 1) (by simp)
 have c2 : W.cell? ⟨g, 2, none⟩ = some (.slice S n m) := h.cell (j := 2) (by simp)
 refine ⟨((h.set (j := 0) (by simp) x).set (j := 1) (by simp) y).set (j := 2) (by simp) z, fun A c d hM => ?_⟩
 exact ((hM.set c0 (by simp)).set (K6 (by decide) c1) (by simp)).set (K6 (by decide) (K6 (by decide) c2)) (by simp)
theorem pt_two {W : World} {g : Nat} {l : List ZE} (hr : W.rangeAt g 0 (Kc l)) (hl : l.length = 16) (hz : l.map (·.z) = [10, 1, 10, 1, 20, 1, 10, 1, 20, 1, 20, 1, 10, 1, 20, 1]) (ho : ∀ e ∈ l, e.ok W) :
  ∃ e0 e1 e2 e3 : ZE, W.rangeAt g 8 (Kc [e0, e1, e2, e3]) ∧ e0.z = 20 ∧ e1.z = 1 ∧ e2.z = 10 ∧ e3.z = 1 ∧ e0.ok W ∧ e1.ok W ∧ e2.ok W ∧ e3.ok W := by
 match l, hl with
 | [a0, a1, a2, a3, e0, e1, e2, e3, b0, b1, b2, b3, b4, b5, b6, b7], _ =>
  simp only [List.map_cons, List.map_nil, List.cons.injEq, and_true] at hz
  obtain ⟨_, _, _, _, z0, z1, z2, z3, _⟩ := hz
  have := Qm [a0, a1, a2, a3] [e0, e1, e2, e3] [b0, b1, b2, b3, b4, b5, b6, b7] hr
  exact ⟨e0, e1, e2, e3, this, z0, z1, z2, z3, ho _ (by simp), ho _ (by simp), ho _ (by simp), ho _ (by simp)⟩
theorem enterK {P Q1 Q2 : World → Prop} {V : World} (h1 : Q1 V) (h2 : Q2 V) (H : ∀ U, Q1 U → Q2 U → P U) : P V := H V h1 h2
set_option maxRecDepth 100000 in
set_option maxHeartbeats 8000000 in
theorem Qw (w : World) : Calls Tryz.prog 12 #[] w (RetB w true) := by
 have HA := hid fun (W : World) => U1 10 0 10 0 10 10 1 (by intro x hx; simp only [List.mem_cons, List.not_mem_nil, or_false] at hx; omega) (by omega) (by omega) (by omega) W
 have HBf := hid fun (W : World) => U1 1 0 0 0 1 0 2 (by intro x hx; simp only [List.mem_cons, List.not_mem_nil, or_false] at hx; omega) (by omega) (by omega) (by omega) W
 have HC := hid fun (W : World) => U1 1 0 10 0 1 10 1 (by intro x hx; simp only [List.mem_cons, List.not_mem_nil, or_false] at hx; omega) (by omega) (by omega) (by omega) W
 have HF1 := hid fun (rf : List Rf) (W : World) (h : HomS W rf exA) => (show Calls Tryz.prog 21 #[.agg (Kc (zl rf)).toArray, .int .i64 1, .int .i64 1, .int .i64 16, .int .i64 16] W (RetTE W (true, 0)) by
  have := Xm rf h.h9 h.m 1 1 16 16
  rwa [h.f, ex_f1] at this)
 have HF2 := hid fun (rf : List Rf) (W : World) (h : HomS W rf exA) => (show Calls Tryz.prog 21 #[.agg (Kc (zl rf)).toArray, .int .i64 1, .int .i64 1, .int .i64 15, .int .i64 15] W (RetTE W (false, 0)) by
  have := Xm rf h.h9 h.m 1 1 15 15
  rwa [h.f, ex_f2] at this)
 have HF3 := hid fun (rf : List Rf) (W : World) (h : HomS W rf exB) => (show Calls Tryz.prog 21 #[.agg (Kc (zl rf)).toArray, .int .i64 2, .int .i64 2, .int .i64 1, .int .i64 1] W (RetTE W (false, 0)) by
  have := Xm rf h.h9 h.m 2 2 1 1
  rwa [h.f, ex_f3] at this)
 have HWp := hid fun (rf : List Rf) (W : World) (h : HomS W rf exA) (A : Option Addr) (c : Nat) (hb : Mb W A c oneB.d) => (show Calls Tryz.prog 16 #[.agg #[.int .i64 oneB.w, .int .i64 oneB.h, .slice A oneB.d.length c], .agg (Kc (zl rf)).toArray, .int .i64 20, .int .i64 12] W (D7 W (⟨20, 12, exL⟩, 0)) by
  have := Ef rf h.h9 hb h.m 20 12
  rwa [h.wr, ex_w] at this)
 have HCr := hid fun (rf : List Rf) (W : World) (h : HomS W rf exA) => (show Calls Tryz.prog 18 #[.agg (Kc (zl rf)).toArray, .int .i64 1, .int .i64 1] W (RetC W ([10, 1, 10, 1, 20, 1, 10, 1, 20, 1, 20, 1, 10, 1, 20, 1], 0)) by
  have := Hd rf h.h9 h.m 1 1
  rwa [h.cr, ex_c] at this)
 have HSp := hid fun (rf : List Rf) (W : World) (h : HomS W rf exC) (A : Option Addr) (c : Nat) (hb : Mb W A c exL) => (show Calls Tryz.prog 13 #[.agg #[.int .i64 20, .int .i64 12, .slice A 240 c], .agg (Kc (zl rf)).toArray, .int .i64 1, .int .i64 1] W (D7 W (⟨1, 1, [true]⟩, 0)) by
  have := Uw (m := ⟨20, 12, exL⟩) rf h.h9 hb h.m 1 1
  rw [h.sm, ex_s] at this
  dsimp only at this
  rwa [ex_len] at this)
 have HQ20 := hid fun (W : World) => QOf_z 20 (by omega) (by omega) W
 have HQ10 := hid fun (W : World) => QOf_z 10 (by omega) (by omega) W
 have HSP := hid fun (e0 e1 e2 e3 f0 f1 f2 f3 : ZE) (W : World) => Vk (w := W) (e0 := e0) (e1 := e1) (e2 := e2) (e3 := e3) (f0 := f0) (f1 := f1) (f2 := f2) (f3 := f3)
 have HEq := hid fun (A B : Option Addr) (c d : Nat) (W : World) (ha : Mb W A c [true]) (hb : Mb W B d [true]) => (show Calls Tryz.prog 15 #[.agg #[.int .i64 1, .int .i64 1, .slice A 1 c], .agg #[.int .i64 1, .int .i64 1, .slice B 1 d]] W (RetB W true) from Wh ⟨1, 1, [true]⟩ ⟨1, 1, [true]⟩ ha hb)
 have hF16 : ∀ (v : World) (l : List ZE), l.length = 16 → (storeCells ⟨v.heap.size, 0, none⟩ (Kc l)).run Tryz.prog (v.alloc (.cells (Kc Ku).toArray 43)) = .ok () (v.alloc (.cells (Kc l).toArray 43)) := fun v l h => Jw (P := Tryz.prog) (w := v) (l := l) (zs := Kc Ku) 43 (by rw [Kf, h]; rfl) T43i
 simp only [Ku, List.replicate, Kc, ZE.cells, ZE.zero, List.cons_append, List.nil_append] at hF16
 have hF16 := hid hF16
 obtain ⟨d32, hU32, row32⟩ := T32u
 go_enter Tryz.func12, Tryz.ntmps12
 go_wp2_with fail
 refine (HA.out _).mono ?_
 rintro e x0 ⟨rA, h9A, rfl, okA, hsA, hx0⟩
 have HB := hx0
 go_wp2_with fail
 refine (HBf.out _).mono ?_
 rintro e x ⟨rB, h9B, rfl, okB, hsB, hx1⟩
 have HB := Kb HB hx1
 have okA : ∀ e ∈ zl rA, e.ok x := fun e he => (okA e he).below hx1
 obtain ⟨W1, hW1⟩ : ∃ W, W = (x.alloc (.cells (Kc Kj).toArray 32)).alloc (.cells (Kc Kj).toArray 32) := ⟨_, rfl⟩
 obtain ⟨W2, hW2⟩ : ∃ W, W = W1.setCells x.heap.size 0 (Kc (zl rA)) := ⟨_, rfl⟩
 obtain ⟨t1, t2, kA, kB⟩ := two_homs h9A h9B okA okB 32 hW1 hW2
 have l36A : (Kc (zl rA)).toArray.size = 36 := by rw [List.size_toArray, Kf, Ky, h9A]
 have l36B : (Kc (zl rB)).toArray.size = 36 := by rw [List.size_toArray, Kf, Ky, h9B]
 rw [← l36A] at t1
 rw [← l36B] at t2
 have hiA := hid (show (Tryz.prog.info? 32).map (·.size) = some (Kc (zl rA)).toArray.size by rw [l36A]; exact T32i)
 have hiB := hid (show (Tryz.prog.info? 32).map (·.size) = some (Kc (zl rB)).toArray.size by rw [l36B]; exact T32i)
 have hiA' := hid (show (Tryz.prog.info? 32).map (·.size) = some (Kc (zl rA)).length by rw [← List.size_toArray]; exact hiA.out)
 have hiB' := hid (show (Tryz.prog.info? 32).map (·.size) = some (Kc (zl rB)).length by rw [← List.size_toArray]; exact hiB.out)
 have hoA := all_oneCell_toArray (Km (zl rA))
 have hoB := all_oneCell_toArray (Km (zl rB))
 subst hW2
 subst hW1
 clear l36A l36B hx0
 go_upto_region 2 with (first | refine wpList_store_mid (by rfl) _ _ _ (by rfl) x.heap.size 0 (Kc (zl rA)).toArray (by rfl) (by rfl) t1 hiA.out hoA ?_ | refine wpList_store_mid (by rfl) _ _ _ (by rfl) (x.heap.size + 1) 0 (Kc (zl rB)).toArray (by rfl) (by rfl) t2 hiB.out hoB ?_ | fail)
 refine enterK (P := fun u => Code.wp _ _ _ _ u) (Q1 := BlkR x x.heap.size rA) (Q2 := BlkR x (x.heap.size + 1) rB) kA kB ?_
 clear kA kB t1 t2 hoA hoB hiA hiB
 intro v kA kB
 have HB := Kb HB kA.b
 have hsA := hid (fun (W : World) (h : Below v.heap.size v W) => hsA.below (Kb (Kb hx1 kA.b) h))
 have hsB := hid (fun (W : World) (h : Below v.heap.size v W) => hsB.below (Kb kB.b h))
 clear hx1
 obtain ⟨gA, hgA⟩ : ∃ g, g = x.heap.size := ⟨_, rfl⟩
 obtain ⟨gB, hgB⟩ : ∃ g, g = x.heap.size + 1 := ⟨_, rfl⟩
 have rA_ := kA.r
 have rB_ := kB.r
 have zA := kA.z
 rw [← hgB, ← hgA]
 rw [← hgA] at rA_ zA
 rw [← hgB] at rB_
 have hgAv := zA.lt
 clear kA kB okA okB hgA hgB zA
 have hbv : Below v.heap.size v v := Below.refl _ _
 go_wp2_with (first | refine wpList_load_mid (by rfl) _ _ (by rfl) (gA) 0 (by rfl) (Kc (zl rA)) _ rA_ hU32 row32 hiA'.out ?_ | fail)
 refine (HF1.out rA v (hsA.out v hbv)).mono ?_
 rintro e v1 ⟨rfl, h1⟩
 dsimp only
 have HB := Kb HB h1
 have hbv := Kb hbv h1
 (try have rA_ := Ke rA_ h1)
 (try have rB_ := Ke rB_ h1)
 go_wp2_with (first | refine wpList_load_mid (by rfl) _ _ (by rfl) (gA) 0 (by rfl) (Kc (zl rA)) _ rA_ hU32 row32 hiA'.out ?_ | fail)
 refine (HF2.out rA v1 (hsA.out v1 hbv)).mono ?_
 rintro e v2 ⟨rfl, h2⟩
 dsimp only
 have HB := Kb HB h2
 have hbv := Kb hbv h2
 (try have rA_ := Ke rA_ h2)
 (try have rB_ := Ke rB_ h2)
 go_wp2_with (first | refine wpList_load_mid (by rfl) _ _ (by rfl) (gB) 0 (by rfl) (Kc (zl rB)) _ rB_ hU32 row32 hiB'.out ?_ | fail)
 refine (HF3.out rB v2 (hsB.out v2 hbv)).mono ?_
 rintro e v3 ⟨rfl, h3⟩
 dsimp only
 have HB := Kb HB h3
 have hbv := Kb hbv h3
 (try have rA_ := Ke rA_ h3)
 (try have rB_ := Ke rB_ h3)
 clear rB_ HF1 HF2 HF3 hsB hiB' h1 h2 h3
 go_upto_region 6 with fail
 refine Jc (P := fun u => Code.wp _ _ _ _ u) (c0 := [.bool true]) (c1 := [.int .i64 1, .int .i64 1, .slice (some ⟨v3.heap.size, 0, none⟩) 1 1]) ?_
 intro v4 h4 rp r9 zp z9 hsz
 have HB := Kb HB h4
 have hbv := Kb hbv h4
 (try have rA_ := Ke rA_ h4)
 (try have rB_ := Ke rB_ h4)
 have hM1 : Mb v4 (some ⟨v3.heap.size, 0, none⟩) 1 oneB.d := Mb.of_rng (d := [true]) (c := 1) rp zp.lt (by decide) (by omega)
 have n0 : v4.cell? ⟨v3.heap.size + 1, 0, none⟩ = some (.int .i64 1) := r9 0 _ rfl
 have n1 : v4.cell? ⟨v3.heap.size + 1, 1, none⟩ = some (.int .i64 1) := r9 1 _ rfl
 have n2 : v4.cell? ⟨v3.heap.size + 1, 2, none⟩ = some (.slice (some ⟨v3.heap.size, 0, none⟩) 1 1) := r9 2 _ rfl
 obtain ⟨g9, hg9⟩ : ∃ g, g = v3.heap.size + 1 := ⟨_, rfl⟩
 rw [← hg9] at n0 n1 n2 ⊢
 clear hg9 rp r9 zp z9 hsz h4
 go_wp2_with (first | refine wpList_load_mid (by rfl) _ _ (by rfl) (gA) 0 (by rfl) (Kc (zl rA)) _ rA_ hU32 row32 hiA'.out ?_ | fail)
 refine (HWp.out rA v4 (hsA.out v4 hbv) _ _ hM1).mono ?_
 rintro e v5 ⟨A5, c5, rfl, hM5, h5⟩
 dsimp only
 rw [ex_len]
 have HB := Kb HB h5
 have hbv := Kb hbv h5
 (try have rA_ := Ke rA_ h5)
 (try have rB_ := Ke rB_ h5)
 have n0 := Ka h5 n0
 have n1 := Ka h5 n1
 have n2 := Ka h5 n2
 have hM1 := hM1.below h5
 go_upto_region 7 with fail
 refine Kw (P := fun u => Code.wp _ _ _ _ u) (c := [.int .i64 20, .int .i64 12, .slice A5 240 c5]) ?_
 intro v6 h6 r10 z10 hsz
 have HB := Kb HB h6
 have hbv := Kb hbv h6
 (try have rA_ := Ke rA_ h6)
 (try have rB_ := Ke rB_ h6)
 have n0 := Ka h6 n0
 have n1 := Ka h6 n1
 have n2 := Ka h6 n2
 have hM1 := hM1.below h6
 have hM5 := hM5.below h6
 have m0 : v6.cell? ⟨v5.heap.size, 0, none⟩ = some (.int .i64 20) := r10 0 _ rfl
 have m1 : v6.cell? ⟨v5.heap.size, 1, none⟩ = some (.int .i64 12) := r10 1 _ rfl
 have m2 : v6.cell? ⟨v5.heap.size, 2, none⟩ = some (.slice A5 240 c5) := r10 2 _ rfl
 obtain ⟨g10, hg10⟩ : ∃ g, g = v5.heap.size := ⟨_, rfl⟩
 rw [← hg10] at m0 m1 m2 ⊢
 clear hg10 r10 z10 hsz HWp h5 h6
 go_wp2_with (first | refine wpList_load_mid (by rfl) _ _ (by rfl) (gA) 0 (by rfl) (Kc (zl rA)) _ rA_ hU32 row32 hiA'.out ?_ | fail)
 refine (HCr.out rA v6 (hsA.out v6 hbv)).mono ?_
 rintro e v7 ⟨lc, hl16, rfl, hlz, hlo, h7⟩
 have F1 := hF16.out v7 lc hl16
 have h32 : (Kc lc).length = 32 := by rw [Kf, hl16]
 dsimp only
 have HB := Kb HB h7
 have hbv := Kb hbv h7
 (try have rA_ := Ke rA_ h7)
 (try have rB_ := Ke rB_ h7)
 have n0 := Ka h7 n0
 have n1 := Ka h7 n1
 have n2 := Ka h7 n2
 have m0 := Ka h7 m0
 have m1 := Ka h7 m1
 have m2 := Ka h7 m2
 have hM1 := hM1.below h7
 have hM5 := hM5.below h7
 go_upto_region 8 with fail
 refine Kw (P := fun u => Code.wp _ _ _ _ u) (c := Kc lc) ?_
 intro v8 h8 r12 z12 hsz
 have HB := Kb HB h8
 have hbv := Kb hbv h8
 (try have rA_ := Ke rA_ h8)
 (try have rB_ := Ke rB_ h8)
 have n0 := Ka h8 n0
 have n1 := Ka h8 n1
 have n2 := Ka h8 n2
 have m0 := Ka h8 m0
 have m1 := Ka h8 m1
 have m2 := Ka h8 m2
 have hM1 := hM1.below h8
 have hM5 := hM5.below h8
 have hlo := fun e he => (hlo e he).below h8
 obtain ⟨g12, hg12⟩ : ∃ g, g = v7.heap.size := ⟨_, rfl⟩
 rw [← hg12] at r12 ⊢
 clear hg12 z12 hsz HCr h7 h8 F1 hF16 rA_ hsA hgAv h32
 obtain ⟨q0, q1, q2, q3, rq, y0, y1, y2, y3, p0, p1, p2, p3⟩ := pt_two r12 hl16 hlz hlo
 clear r12 hl16 hlz hlo
 go_wp2_with fail
 refine (HQ20.out v8).mono ?_
 rintro e v9 ⟨e0, e1, rfl, z0, z1, o0, o1, h9⟩
 simp only [Kc, ZE.cells, List.cons_append, List.nil_append]
 go_upto_region 9 with fail
 refine Kw (P := fun u => Code.wp _ _ _ _ u) (c := Kc [e0, e1]) ?_
 intro v10 h10 ra za hsz
 have h910 := Kb h9 h10
 have HB := Kb HB h910
 have hbv := Kb hbv h910
 (try have rA_ := Ke rA_ h910)
 (try have rB_ := Ke rB_ h910)
 have n0 := Ka h910 n0
 have n1 := Ka h910 n1
 have n2 := Ka h910 n2
 have m0 := Ka h910 m0
 have m1 := Ka h910 m1
 have m2 := Ka h910 m2
 have hM1 := hM1.below h910
 have hM5 := hM5.below h910
 have rq := Ke rq h910
 have p0 := p0.below h910
 have p1 := p1.below h910
 have p2 := p2.below h910
 have p3 := p3.below h910
 have o0 := o0.below h10
 have o1 := o1.below h10
 clear za hsz h9 h10 h910
 go_wp2_with fail
 refine (HQ10.out v10).mono ?_
 rintro e v11 ⟨e2, e3, rfl, z2, z3, o2, o3, h11⟩
 simp only [Kc, ZE.cells, List.cons_append, List.nil_append]
 go_upto_region 10 with fail
 refine Kw (P := fun u => Code.wp _ _ _ _ u) (c := Kc [e2, e3]) ?_
 intro v12 h12 rb zb hsz
 have h112 := Kb h11 h12
 have HB := Kb HB h112
 have hbv := Kb hbv h112
 (try have rA_ := Ke rA_ h112)
 (try have rB_ := Ke rB_ h112)
 have n0 := Ka h112 n0
 have n1 := Ka h112 n1
 have n2 := Ka h112 n2
 have m0 := Ka h112 m0
 have m1 := Ka h112 m1
 have m2 := Ka h112 m2
 have hM1 := hM1.below h112
 have hM5 := hM5.below h112
 have rq := Ke rq h112
 have p0 := p0.below h112
 have p1 := p1.below h112
 have p2 := p2.below h112
 have p3 := p3.below h112
 have ra := Ke ra h112
 have o0 := o0.below h112
 have o1 := o1.below h112
 have o2 := o2.below h12
 have o3 := o3.below h12
 clear zb hsz h11 h12 h112 HQ20 HQ10
 obtain ⟨b5, o5, rfl, hc5⟩ := hM5.one (by rw [ex_len]; decide)
 have d0 := hc5 0 _ ex_at.1
 have d1 := hc5 209 _ ex_at.2.1
 have d2 := hc5 210 _ ex_at.2.2.1
 have d3 := hc5 239 _ ex_at.2.2.2
 rw [Nat.add_zero] at d0
 clear hc5
 go_upto_region 12 with fail
 clear d0 d1 d2 d3
 go_cut [18, 19] (fun s18 s19 wx => s19 = .int .i64 0 ∧ ∃ (g : Nat) (A7 : Option Addr) (c7 : Nat), s18 = .pointer (some ⟨g, 0, none⟩) ∧ Mb wx A7 c7 [true] ∧ FilV v12 g [.int .i64 1, .int .i64 1, .slice A7 1 c7] wx)
 case first =>
  have qc : Below v12.heap.size v12 v12.drew := Qj
  refine wp_region_held_drew (S := fun w' => w'.cell? ⟨g10, 0, none⟩ = some (.int .i64 20) ∧ w'.cell? ⟨g10, 1, none⟩ = some (.int .i64 12) ∧ w'.cell? ⟨g10, 2, none⟩ = some (.slice (some ⟨b5, o5, none⟩) 240 c5) ∧ Below v12.heap.size v12 w') (by kernel_rfl) ?_ (fun hHeld => ?_)
  ·exact ⟨m0, m1, m2, qc⟩
  generalize v12.drew = vd at *
  refine' TKa 0 ?_
  refine br2 (i := 1) (j := 6) (by decide +kernel) rfl rfl (fun K hK => ?_) (fun K hK => ?_)
  ·go_simp
   (go_at_call 24; refine (HC.out _).mono ?_; rintro e a1 ⟨rC, h9C, rfl, okC, hsC, hq_⟩; have qc := Kb qc hq_; (try have bx := bx.below hq_))
   (try go_wp2_with fail)
   refine' HKa hK (by exact ⟨Ka qc m0, Ka qc m1, Ka qc m2, qc⟩) (fun hHeld => ?_)
   clear hK K
   refine br2 (i := 2) (j := 6) (by decide +kernel) rfl rfl (fun K hK => ?_) (fun K hK => ?_)
   ·go_simp
    (go_at_call 13; refine (HSp.out rC _ hsC _ _ (hM5.below qc)).mono ?_; rintro e a2 ⟨A7, c7, rfl, hM7, hq_⟩; (try dsimp only); (try simp only [List.length_singleton]); have qc := Kb qc hq_; (try have bx := bx.below hq_))
    (try go_wp2_with fail)
    refine' HKa hK (by exact ⟨Ka qc m0, Ka qc m1, Ka qc m2, qc⟩) (fun hHeld => ?_)
    clear hK K
    refine' TKa 3 ?_
    refine' TKa 4 ?_
    refine' TKa 5 ?_
    refine BRa 6 (fun K hK => ?_)
    have hal_ := (Below.refl (a2).heap.size (a2)).alloc (Nat.le_refl _) (.cells #[.int .i64 0, .int .i64 0, .slice none 0 0] 24)
    have hgv_ := qc.size
    have qc := Kb qc hal_
    have bx : FilV v12 (a2).heap.size [.int .i64 0, .int .i64 0, .slice none 0 0] ((a2).alloc (.cells #[.int .i64 0, .int .i64 0, .slice none 0 0] 24)) := ⟨qc, Zn.new_, hgv_, K4⟩
    (try have hsC := hsC.below hal_)
    (try have hM7 := hM7.below hal_)
    clear hgv_
    go_simp
    skip
    (try go_wp2_with fail)
    refine' HKa hK (by exact ⟨Ka qc m0, Ka qc m1, Ka qc m2, qc⟩) (fun hHeld => ?_)
    clear hK K
    generalize (a2).alloc (.cells #[.int .i64 0, .int .i64 0, .slice none 0 0] 24) = p18 at *
    obtain ⟨f0, f1, f2⟩ := bx.three
    have ff := bx.z.fr
    have fl := bx.z.lt
    have hne := bx.hg
    have hlm := Kd m0
    obtain ⟨hR, hMM⟩ := bx.put3 (.int .i64 1) (.int .i64 1) (.slice A7 1 c7)
    have hM7 := hid (hMM _ _ _ hM7)
    have hR := hid hR
    clear hMM
    refine BRa 7 (fun K hK => ?_)
    go_simp
    skip
    (try go_wp2_with fail)
    refine' HKa hK (by (exact ⟨Kh (by omega) (Kh (by omega) (Kh (by omega) (Ka qc m0))), Kh (by omega) (Kh (by omega) (Kh (by omega) (Ka qc m1))), Kh (by omega) (Kh (by omega) (Kh (by omega) (Ka qc m2))), hR.out.b⟩)) (fun hHeld => ?_)
    clear hK K
    refine' TKa 8 ?_
    refine wpAnyH_done (by kernel_rfl) ?_ _
    go_wp2_with fail
    go_meet
    exact ⟨rfl, _, A7, c7, rfl, hM7.out, hR.out⟩
   ·have hal_ := (Below.refl (a1).heap.size (a1)).alloc (Nat.le_refl _) (.cells #[.int .i64 0, .int .i64 0, .slice none 0 0] 24)
    have hgv_ := qc.size
    have qc := Kb qc hal_
    have bx : FilV v12 (a1).heap.size [.int .i64 0, .int .i64 0, .slice none 0 0] ((a1).alloc (.cells #[.int .i64 0, .int .i64 0, .slice none 0 0] 24)) := ⟨qc, Zn.new_, hgv_, K4⟩
    (try have hsC := hsC.below hal_)
    (try have hM7 := hM7.below hal_)
    clear hgv_
    go_simp
    skip
    (try go_wp2_with fail)
    refine' HKa hK (by exact ⟨Ka qc m0, Ka qc m1, Ka qc m2, qc⟩) (fun hHeld => ?_)
    clear hK K
    generalize (a1).alloc (.cells #[.int .i64 0, .int .i64 0, .slice none 0 0] 24) = p18 at *
    refine BRa 2 (fun K hK => ?_)
    go_simp
    (go_at_call 13; refine (HSp.out rC _ hsC _ _ (hM5.below qc)).mono ?_; rintro e a2 ⟨A7, c7, rfl, hM7, hq_⟩; (try dsimp only); (try simp only [List.length_singleton]); have qc := Kb qc hq_; (try have bx := bx.below hq_))
    (try go_wp2_with fail)
    refine' HKa hK (by exact ⟨Ka qc m0, Ka qc m1, Ka qc m2, qc⟩) (fun hHeld => ?_)
    clear hK K
    refine' TKa 3 ?_
    refine' TKa 4 ?_
    refine' TKa 5 ?_
    obtain ⟨f0, f1, f2⟩ := bx.three
    have ff := bx.z.fr
    have fl := bx.z.lt
    have hne := bx.hg
    have hlm := Kd m0
    obtain ⟨hR, hMM⟩ := bx.put3 (.int .i64 1) (.int .i64 1) (.slice A7 1 c7)
    have hM7 := hid (hMM _ _ _ hM7)
    have hR := hid hR
    clear hMM
    refine BRa 7 (fun K hK => ?_)
    go_simp
    skip
    (try go_wp2_with fail)
    refine' HKa hK (by (exact ⟨Kh (by omega) (Kh (by omega) (Kh (by omega) (Ka qc m0))), Kh (by omega) (Kh (by omega) (Kh (by omega) (Ka qc m1))), Kh (by omega) (Kh (by omega) (Kh (by omega) (Ka qc m2))), hR.out.b⟩)) (fun hHeld => ?_)
    clear hK K
    refine' TKa 8 ?_
    refine wpAnyH_done (by kernel_rfl) ?_ _
    go_wp2_with fail
    go_meet
    exact ⟨rfl, _, A7, c7, rfl, hM7.out, hR.out⟩
  ·have hal_ := (Below.refl (vd).heap.size (vd)).alloc (Nat.le_refl _) (.cells #[.int .i64 0, .int .i64 0, .slice none 0 0] 24)
   have hgv_ := qc.size
   have qc := Kb qc hal_
   have bx : FilV v12 (vd).heap.size [.int .i64 0, .int .i64 0, .slice none 0 0] ((vd).alloc (.cells #[.int .i64 0, .int .i64 0, .slice none 0 0] 24)) := ⟨qc, Zn.new_, hgv_, K4⟩
   (try have hsC := hsC.below hal_)
   (try have hM7 := hM7.below hal_)
   clear hgv_
   go_simp
   skip
   (try go_wp2_with fail)
   refine' HKa hK (by exact ⟨Ka qc m0, Ka qc m1, Ka qc m2, qc⟩) (fun hHeld => ?_)
   clear hK K
   generalize (vd).alloc (.cells #[.int .i64 0, .int .i64 0, .slice none 0 0] 24) = p18 at *
   refine BRa 1 (fun K hK => ?_)
   go_simp
   (go_at_call 24; refine (HC.out _).mono ?_; rintro e a1 ⟨rC, h9C, rfl, okC, hsC, hq_⟩; have qc := Kb qc hq_; (try have bx := bx.below hq_))
   (try go_wp2_with fail)
   refine' HKa hK (by exact ⟨Ka qc m0, Ka qc m1, Ka qc m2, qc⟩) (fun hHeld => ?_)
   clear hK K
   refine BRa 2 (fun K hK => ?_)
   go_simp
   (go_at_call 13; refine (HSp.out rC _ hsC _ _ (hM5.below qc)).mono ?_; rintro e a2 ⟨A7, c7, rfl, hM7, hq_⟩; (try dsimp only); (try simp only [List.length_singleton]); have qc := Kb qc hq_; (try have bx := bx.below hq_))
   (try go_wp2_with fail)
   refine' HKa hK (by exact ⟨Ka qc m0, Ka qc m1, Ka qc m2, qc⟩) (fun hHeld => ?_)
   clear hK K
   refine' TKa 3 ?_
   refine' TKa 4 ?_
   refine' TKa 5 ?_
   obtain ⟨f0, f1, f2⟩ := bx.three
   have ff := bx.z.fr
   have fl := bx.z.lt
   have hne := bx.hg
   have hlm := Kd m0
   obtain ⟨hR, hMM⟩ := bx.put3 (.int .i64 1) (.int .i64 1) (.slice A7 1 c7)
   have hM7 := hid (hMM _ _ _ hM7)
   have hR := hid hR
   clear hMM
   refine BRa 7 (fun K hK => ?_)
   go_simp
   skip
   (try go_wp2_with fail)
   refine' HKa hK (by (exact ⟨Kh (by omega) (Kh (by omega) (Kh (by omega) (Ka qc m0))), Kh (by omega) (Kh (by omega) (Kh (by omega) (Ka qc m1))), Kh (by omega) (Kh (by omega) (Kh (by omega) (Ka qc m2))), hR.out.b⟩)) (fun hHeld => ?_)
   clear hK K
   refine' TKa 8 ?_
   refine wpAnyH_done (by kernel_rfl) ?_ _
   go_wp2_with fail
   go_meet
   exact ⟨rfl, _, A7, c7, rfl, hM7.out, hR.out⟩
 case rest =>
  obtain ⟨rfl, g18, A7, c7, rfl, hM7, bx⟩ := hcut
  have hx := bx.b
  have n0 := Ka hx n0
  have n1 := Ka hx n1
  have n2 := Ka hx n2
  have HB := Kb HB hx
  have hM1 := hM1.below hx
  have rq := Ke rq hx
  have ra := Ke ra hx
  have rb := Ke rb hx
  have s0 : wc.cell? ⟨g12, 8, none⟩ = some (.bool q0.b) := rq 0 _ rfl
  have s1 : wc.cell? ⟨g12, 9, none⟩ = some (.slice q0.A q0.n q0.c) := rq 1 _ rfl
  have s2 : wc.cell? ⟨g12, 10, none⟩ = some (.bool q1.b) := rq 2 _ rfl
  have s3 : wc.cell? ⟨g12, 11, none⟩ = some (.slice q1.A q1.n q1.c) := rq 3 _ rfl
  have s4 : wc.cell? ⟨g12, 12, none⟩ = some (.bool q2.b) := rq 4 _ rfl
  have s5 : wc.cell? ⟨g12, 13, none⟩ = some (.slice q2.A q2.n q2.c) := rq 5 _ rfl
  have s6 : wc.cell? ⟨g12, 14, none⟩ = some (.bool q3.b) := rq 6 _ rfl
  have s7 : wc.cell? ⟨g12, 15, none⟩ = some (.slice q3.A q3.n q3.c) := rq 7 _ rfl
  have j0 : wc.cell? ⟨v9.heap.size, 0, none⟩ = some (.bool e0.b) := ra 0 _ rfl
  have j1 : wc.cell? ⟨v9.heap.size, 1, none⟩ = some (.slice e0.A e0.n e0.c) := ra 1 _ rfl
  have j2 : wc.cell? ⟨v9.heap.size, 2, none⟩ = some (.bool e1.b) := ra 2 _ rfl
  have j3 : wc.cell? ⟨v9.heap.size, 3, none⟩ = some (.slice e1.A e1.n e1.c) := ra 3 _ rfl
  have i0 : wc.cell? ⟨v11.heap.size, 0, none⟩ = some (.bool e2.b) := rb 0 _ rfl
  have i1 : wc.cell? ⟨v11.heap.size, 1, none⟩ = some (.slice e2.A e2.n e2.c) := rb 1 _ rfl
  have i2 : wc.cell? ⟨v11.heap.size, 2, none⟩ = some (.bool e3.b) := rb 2 _ rfl
  have i3 : wc.cell? ⟨v11.heap.size, 3, none⟩ = some (.slice e3.A e3.n e3.c) := rb 3 _ rfl
  have x0 : wc.cell? ⟨g18, 0, none⟩ = some (.int .i64 1) := bx.cell (j := 0) (by simp)
  have x1 : wc.cell? ⟨g18, 1, none⟩ = some (.int .i64 1) := bx.cell (j := 1) (by simp)
  have x2 : wc.cell? ⟨g18, 2, none⟩ = some (.slice A7 1 c7) := bx.cell (j := 2) (by simp)
  have hSP := hid (show Calls Tryz.prog 20 #[.agg (Kc [q0, q1, q2, q3]).toArray, .agg (Kc [e0, e1, e2, e3]).toArray] wc (RetB wc true) from by
   have := HSP.out q0 q1 q2 q3 e0 e1 e2 e3 wc (p0.below hx) (p1.below hx) (p2.below hx) (p3.below hx) (o0.below hx) (o1.below hx) (o2.below hx) (o3.below hx)
   rwa [y0, y1, y2, y3, z0, z1, z2, z3] at this)
  clear rq ra rb bx HSP hM5 p0 p1 p2 p3 o0 o1 o2 o3 m0 m1 m2 HC HSp
  go_wp2_with fail
  refine hSP.out.mono ?_
  rintro e w1 ⟨rfl, hw1⟩
  have n0 := Ka hw1 n0
  have n1 := Ka hw1 n1
  have n2 := Ka hw1 n2
  have x0 := Ka hw1 x0
  have x1 := Ka hw1 x1
  have x2 := Ka hw1 x2
  have HB := Kb HB hw1
  have hM1 := hM1.below hw1
  have hM7 := hM7.below hw1
  clear s0 s1 s2 s3 s4 s5 s6 s7 j0 j1 j2 j3 i0 i1 i2 i3 hSP
  go_wp2_with fail
  refine (HEq.out A7 _ c7 1 w1 hM7 hM1).mono ?_
  rintro e w2 ⟨rfl, hw2⟩
  have HB := Kb HB hw2
  go_wp2
  go_ret
  exact ⟨rfl, HB⟩
end Go.Proofs.YtdkgbkbbbldliaaGreat
