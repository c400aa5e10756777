/- The laws on homographies: contracts between arrays of fractions; the helpers. Conditions: none. -/
import Derived.Test.YtdkgbkbbbldliaaGreatZYZ
import Derived.Test.YtdkgbkbbbldliaaGreatZHm20
import Derived.Test.YtdkgbkbbbldliaaGreatZYY
import Derived.Test.YtdkgbkbbbldliaaGreatZYJ
import Derived.Test.YtdkgbkbbbldliaaGreatZYX
import Derived.Test.YtdkgbkbbbldliaaGreatZAr10
set_option linter.unusedVariables false
set_option linter.unusedSimpArgs false
namespace Go.Proofs.YtdkgbkbbbldliaaGreat
open Go.RowKit Big
theorem Uf (rf : List Rf) : toRf (zl rf) = rf := by
 induction rf with
 | nil => rfl
 | cons f fs ih =>
  rw [Ud]
  show (⟨f.na, f.A, f.xs, f.ca, f.nb, f.B, f.ys, f.cb⟩ : Rf) :: toRf (zl fs) = f :: fs
  rw [ih]
/-- a transformation and an error -/
def RetH (w : World) (q : List Int × Int) (e : Ending) (w' : World) : Prop := ∃ rf : List Rf, rf.length = 9 ∧ e = .returned (.tuple #[.agg (Kc (zl rf)).toArray, .int .i64 q.2]) ∧ (zl rf).map (·.z) = q.1 ∧ (∀ x ∈ zl rf, x.ok w') ∧ (∀ f ∈ rf, f.mg w') ∧ Below w.heap.size w w'
/-- a point and an error -/
def RetP (w : World) (q : List Int × Int) (e : Ending) (w' : World) : Prop := ∃ rf : List Rf, rf.length = 2 ∧ e = .returned (.tuple #[.agg (Kc (zl rf)).toArray, .int .i64 q.2]) ∧ (zl rf).map (·.z) = q.1 ∧ (∀ x ∈ zl rf, x.ok w') ∧ (∀ f ∈ rf, f.mg w') ∧ Below w.heap.size w w'
theorem Hn.h {w w' : World} {q : List Int × Int} {e : Ending} (hl : q.1.length = 18) (h : Hn w q e w') : RetH w q e w' := by
 obtain ⟨l, rfl, hz, ho, hb⟩ := h
 obtain ⟨h1, h2, h3⟩ := Wz 9 l (by rw [← List.length_map (·.z), hz, hl]) ho
 exact ⟨toRf l, h2, by rw [h1], by rw [h1, hz], by rw [h1]; exact ho, h3, hb⟩
theorem RetPE.h {w w' : World} {q : List Int × Int} {e : Ending} (hl : q.1.length = 4) (h : RetPE w q e w') : RetP w q e w' := by
 obtain ⟨l, rfl, hz, ho, hb⟩ := h
 obtain ⟨h1, h2, h3⟩ := Wz 2 l (by rw [← List.length_map (·.z), hz, hl]) ho
 exact ⟨toRf l, h2, by rw [h1], by rw [h1, hz], by rw [h1]; exact ho, h3, hb⟩
/-- a result that is a transformation -/
theorem homR_rf {w : World} {rf : List Rf} {X : List Int} (h9 : X.length = 9) (h40 : le40 (redZ X) = true) (hz : (zl rf).map (·.z) = homZ (redZ X)) (ho : ∀ e ∈ zl rf, e.ok w) : HomR w rf X := by
 have := (homR h9 h40 hz ho).2
 rwa [Uf] at this
theorem resZ_hom {w : World} {rf : List Rf} {X : List Int} {q : List Int × Int} (hq : q = resZ X) (h9 : X.length = 9) (h0 : q.2 = 0) (hz : (zl rf).map (·.z) = q.1) (ho : ∀ e ∈ zl rf, e.ok w) : HomR w rf X := by
 subst hq
 rcases Vg X with ⟨h1, h2⟩ | ⟨h1, h2⟩
 ·rw [h1] at hz
  exact homR_rf h9 h2 hz ho
 ·rw [h1] at h0
  simp at h0
theorem resZ_err (X : List Int) : (resZ X).2 = 0 ∨ (resZ X).2 = 4 := by
 rcases Vg X with ⟨h1, _⟩ | ⟨h1, _⟩ <;> rw [h1]
 ·exact Or.inl rfl
 ·exact Or.inr rfl
theorem V8 {F : List Int → List Int} {fs : List Rf} (h : (F (nrmZ fs)).length = 9) : (oneE F fs).1.length = 18 := by
 unfold oneE
 split
 ·exact Wf h
 ·simp
theorem aplE_len {fs gs : List Rf} : (aplE fs gs).1.length = 4 := by
 unfold aplE
 split
 ·split
  ·split
   ·split
    ·simp
    ·simp [frZ]
   ·simp
  ·simp
 ·simp
theorem Ha {fs : List Rf} (h9 : fs.length = 9) {w : World} (hm : ∀ f ∈ fs, f.mg w) : Calls Tryz.prog 41 #[.agg (Kc (zl fs)).toArray] w (RetH w (oneE adjZ fs)) :=
 (HInverse_g fs h9 hm).mono fun e w' h => h.h (V8 (Ws (Jf h9)))
theorem LNormal_h {fs : List Rf} (h9 : fs.length = 9) {w : World} (hm : ∀ f ∈ fs, f.mg w) : Calls Tryz.prog 58 #[.agg (Kc (zl fs)).toArray] w (RetH w (oneE id fs)) :=
 (HNormal_g fs h9 hm).mono fun e w' h => h.h (V8 (Jf h9))
theorem LApply_h {fs gs : List Rf} (h9 : fs.length = 9) (h2 : gs.length = 2) {w : World} (hm : ∀ f ∈ fs, f.mg w) (hm' : ∀ f ∈ gs, f.mg w) : Calls Tryz.prog 43 #[.agg (Kc (zl fs)).toArray, .agg (Kc (zl gs)).toArray] w (RetP w (aplE fs gs)) :=
 (HApply_g fs gs h9 h2 hm hm').mono fun e w' h => h.h aplE_len
/-- an array of fractions in a block -/
structure BlkR (u : World) (g : Nat) (rf : List Rf) (wx : World) : Prop where
 b : Below u.heap.size u wx
 hg : u.heap.size ≤ g
 r : wx.rangeAt g 0 (Kc (zl rf))
 z : Zn wx g
 ok : ∀ e ∈ zl rf, e.ok wx
 m : ∀ f ∈ rf, f.mg wx
theorem rf_mg {w : World} {rf : List Rf} (h : ∀ e ∈ zl rf, e.ok w) : ∀ f ∈ rf, f.mg w := by
 have := (Wz rf.length (zl rf) (Ky rf) h).2.2
 rwa [Uf] at this
theorem BlkR.below {u wx wy : World} {g : Nat} {rf : List Rf} (h : BlkR u g rf wx) (hb : Below wx.heap.size wx wy) : BlkR u g rf wy := ⟨Kb h.b hb, h.hg, Ke h.r hb, h.z.below hb, fun e he => (h.ok e he).below hb, fun f hf => (h.m f hf).below hb⟩
theorem BlkR.new {u W : World} {rf : List Rf} {t : TypeId} (hb : Below u.heap.size u W) (ho : ∀ e ∈ zl rf, e.ok W) : BlkR u W.heap.size rf (W.alloc (.cells (Kc (zl rf)).toArray t)) := by
 have h : Below W.heap.size W (W.alloc (.cells (Kc (zl rf)).toArray t)) := (Below.refl _ _).alloc (Nat.le_refl _) _
 have ho' : ∀ e ∈ zl rf, e.ok (W.alloc (.cells (Kc (zl rf)).toArray t)) := fun e he => (ho e he).below h
 exact ⟨Kb hb h, hb.size, K4, Zn.new_, ho', rf_mg ho'⟩
theorem BlkR.set {u W : World} {g : Nat} {rf : List Rf} {cs : List ZE} (hr : W.rangeAt g 0 (Kc cs)) (z : Zn W g) (hb : Below u.heap.size u W) (hg : u.heap.size ≤ g) (hl : (zl rf).length = cs.length) (ho : ∀ e ∈ zl rf, e.ok W) : BlkR u g rf (W.setCells g 0 (Kc (zl rf))) := by
 obtain ⟨F1, F2, F3, F4⟩ := Gf hb hg hr z (by rw [Kf, Kf, hl]) (Js _) ho
 exact ⟨F1, hg, F2, F4, F3, rf_mg F3⟩
end Go.Proofs.YtdkgbkbbbldliaaGreat
