/- Package fraction: walks of valid, Valid. Conditions: none. -/
import Derived.Test.YtdkgbkbbbldliaaGreatZYJ
import Derived.Deep.DeepCutAuto
import Derived.Deep.Light
import Derived.Deep.RegionLaw
set_option linter.unusedVariables false
set_option linter.unusedSimpArgs false
namespace Go.Proofs.YtdkgbkbbbldliaaGreat
open Go.RowKit Big
/-- a raw fraction: signs, limbs and where they lie -/
structure Rf where
 na : Bool
 A : Option Addr
 xs : List Nat
 ca : Nat
 nb : Bool
 B : Option Addr
 ys : List Nat
 cb : Nat
/-- the fraction lies at g, o -/
structure RfAt (w : World) (g o : Nat) (f : Rf) : Prop where
 c0 : w.cell? ⟨g, o, none⟩ = some (.bool f.na)
 c1 : w.cell? ⟨g, o + 1, none⟩ = some (.slice f.A f.xs.length f.ca)
 c2 : w.cell? ⟨g, o + 2, none⟩ = some (.bool f.nb)
 c3 : w.cell? ⟨g, o + 3, none⟩ = some (.slice f.B f.ys.length f.cb)
 m1 : Mg w f.A f.ca f.xs
 m2 : Mg w f.B f.cb f.ys
theorem RfAt.below {w w' : World} {g o : Nat} {f : Rf} (h : RfAt w g o f) (hb : Below w.heap.size w w') : RfAt w' g o f :=
 ⟨Ka hb h.c0, Ka hb h.c1, Ka hb h.c2, Ka hb h.c3, h.m1.below hb, h.m2.below hb⟩
def Rf.v (f : Rf) : Bool := fvB f.na f.xs f.nb f.ys
theorem gcd_raw {na nb : Bool} {xs ys : List Nat} {A B : Option Addr} {c d : Nat} {w : World} (ha : Mg w A c xs) (hb : Mg w B d ys) :
  (Jb na xs = true → Jb nb ys = true → Calls Tryz.prog 148 #[.agg #[.bool na, .slice A xs.length c], .agg #[.bool nb, .slice B ys.length d]] w (X6 w (Nat.gcd (val xs) (val ys) : Nat) 0)) ∧
  ((Jb na xs && Jb nb ys) = false → Calls Tryz.prog 148 #[.agg #[.bool na, .slice A xs.length c], .agg #[.bool nb, .slice B ys.length d]] w (X6 w 0 1)) := by
 constructor
 ·intro h1 h2
  obtain ⟨x, rfl, rfl, fx⟩ := W7 ha.ok h1
  obtain ⟨y, rfl, rfl, fy⟩ := W7 hb.ok h2
  rw [Kl, Kl]
  exact GCD_ok x y A B c d w ha hb fx fy
 ·intro h
  cases h1 : Jb na xs
  ·exact GCD_bad1 na nb xs ys A B c d w ha h1
  ·obtain ⟨x, rfl, rfl, fx⟩ := W7 ha.ok h1
   rw [h1] at h
   exact GCD_bad2 x nb ys A B c d w ha hb fx (by simpa using h)
set_option maxRecDepth 100000 in
set_option maxHeartbeats 4000000 in
theorem Frvalid_any (fs : List Rf) (g c : Nat) (w : World) (hc : fs.length ≤ c) (hl : fs.length ≤ 1000) (hm : c ≤ 9223372036854775807) (hfs : ∀ j (h : j < fs.length), RfAt w g (j * 4) fs[j]) :
  Calls Tryz.prog 124 #[.slice (some ⟨g, 0, none⟩) fs.length c] w (RetB w (fs.all Rf.v)) := by
 go_enter Tryz.func124, Tryz.ntmps124
 go_wp2
 go_loopw [9] (fun s9 wr => ∃ k : Nat, k ≤ fs.length ∧ s9 = .int .i64 k ∧ Below w.heap.size w wr ∧ Hid ((fs.take k).all Rf.v = true)) (fun s9 _ => fs.length - (intOf s9).toNat)
 case atStart => exact ⟨0, Nat.zero_le _, rfl, Below.refl _ _, by simp [Hid]⟩
 case round =>
  obtain ⟨k, hk, rfl, hbl, hv⟩ := hrel
  by_cases hkl : k < fs.length
  ·have hAt := (hfs k hkl).below hbl
   have hall : ∀ b, fs[k].v = b → b = false → fs.all Rf.v = false := fun b h1 h2 => by
    rw [List.all_eq_false]
    exact ⟨fs[k], List.getElem_mem hkl, by rw [h1, h2]; simp⟩
   have hall := hid hall
   have hnext := hid (fun h : fs[k].v = true => (show (fs.take (k + 1)).all Rf.v = true by rw [List.take_succ_eq_append_getElem hkl, List.all_append, hv.out]; simp [h]))
   generalize fs[k] = f at *
   obtain ⟨na, A, xs, ca, nb, B, ys, cb⟩ := f
   obtain ⟨c0, c1, c2, c3, m1, m2⟩ := hAt
   dsimp only at *
   generalize fs.all Rf.v = r at *
   have hwz := hbl.size
   have hA := m1.cap
   have hA2 := m1.max
   have hB := m2.cap
   have hB2 := m2.max
   cases nb with
   | true =>
    obtain rfl : r = false := hall.out false (by simp [Rf.v, fvB]) rfl
    clear hall hnext m1 m2
    go_wp2
    go_ret
    exact ⟨rfl, hbl.alloc hwz _⟩
   | false =>
    by_cases h0 : ys = []
    ·obtain rfl : r = false := hall.out false (by simp [Rf.v, fvB, h0]) rfl
     subst h0
     clear hall hnext m1 m2
     simp only [List.length_nil] at *
     go_wp2
     go_ret
     exact ⟨rfl, hbl.alloc hwz _⟩
    ·have hl0 : ((ys.length : Int) == 0) = false := by rw [beq_eq_false_iff_ne]; have := List.length_pos_iff.2 h0; omega
     cases hV : (Jb na xs && Jb false ys)
     ·obtain rfl : r = false := hall.out false (by simp [Rf.v, fvB, hV]) rfl
      have HG := hid fun (w1 : World) (h : Below wr.heap.size wr w1) => (gcd_raw (m1.below h) (m2.below h)).2 hV
      clear hall hnext m1 m2 hV h0
      generalize xs.length = k1 at *
      generalize ys.length = k2 at *
      go_wp2_with fail
      refine (HG.out _ ((Below.refl _ _).alloc (Nat.le_refl _) _)).mono ?_
      rintro e w1 ⟨R1, e1, rfl, mg, h1⟩
      obtain ⟨q0, q1, q2, q3, z0⟩ := newF h1
      have HB : Below w.heap.size w w1 := hbl.trans (((Below.refl _ _).alloc (Nat.le_refl _) _).trans (h1.mono (by simp)) |>.mono hwz)
      have lt_q0 := Kd q0
      have hw1 := HB.size
      go_wp2
      go_quiet (fail)
      go_wp2
      go_ret
      exact ⟨rfl, Ki (HB.alloc hw1 _) _⟩
     ·simp only [Bool.and_eq_true] at hV
      obtain ⟨v1, v2⟩ := hV
      have p1 := (Jr m1.ok v1).1
      have p2 := (Jr m2.ok v2).1
      have b2 := Qf v2
      have hy0 : 0 < val ys := by
       rcases Nat.eq_zero_or_pos (val ys) with h | h
       ·rw [h, Ko] at p2; exact absurd p2 h0
       ·exact h
      have hgl : Nat.gcd (val xs) (val ys) ≤ val ys := Nat.gcd_le_right _ hy0
      have hgf : fits ((Nat.gcd (val xs) (val ys) : Nat) : Int) := by
       rw [Wt]
       refine Nat.le_trans (Kv hgl) ?_
       rw [← p2]; exact b2
      have hval : (⟨na, A, xs, ca, false, B, ys, cb⟩ : Rf).v = decide (Nat.gcd (val xs) (val ys) = 1) := by
       unfold Rf.v fvB
       simp only [v1, v2]
       simp [h0]
      obtain ⟨bz, kz, Lz_, Iz_⟩ := iz ((Nat.gcd (val xs) (val ys) : Nat) : Int)
      obtain ⟨b1, k1_, L1, I1⟩ := iz 1
      have HG := hid fun (w1 : World) (h : Below wr.heap.size wr w1) => ((gcd_raw (m1.below h) (m2.below h)).1 v1 v2).mono fun e w' h => X6.g h Iz_.out
      have H1 := hid fun (w1 : World) => Q7 (w := w1) I1.out (by omega) (by omega)
      have HCm := hid fun (w1 : World) (R Q : Option Addr) (c d : Nat) (m : Mg w1 R c Lz_) (m' : Mg w1 Q d L1) => Cmp_g (w := w1) Iz_.out I1.out m m' hgf (by have := Uy 1 (by omega) (by omega); exact this) _ rfl
      clear m1 m2 v1 v2 p1 p2 b2 hgl hgf h0
      by_cases hg1 : Nat.gcd (val xs) (val ys) = 1
      ·have HN := hid (hnext.out (by rw [hval]; simp [hg1]))
       rw [hg1] at HCm
       rw [show zord ((1 : Nat) : Int) 1 = 0 by decide] at HCm
       clear hall hnext hval hg1 hy0 Iz_ I1
       generalize xs.length = k1 at *
       generalize ys.length = k2 at *
       go_wp2_with fail
       refine (HG.out _ ((Below.refl _ _).alloc (Nat.le_refl _) _)).mono ?_
       rintro e w1 ⟨R1, e1, rfl, mg, h1⟩
       obtain ⟨q0, q1, q2, q3, z0⟩ := newF h1
       have HB : Below w.heap.size w w1 := hbl.trans (((Below.refl _ _).alloc (Nat.le_refl _) _).trans (h1.mono (by simp)) |>.mono hwz)
       have lt_q0 := Kd q0
       go_wp2_with fail
       have t0 := K5 (W := w1) (a := .bool bz) (b := .slice R1 kz e1) (t := 27) rfl
       have t1 := K7 (W := w1) (a := .bool bz) (b := .slice R1 kz e1) (t := 27) rfl
       have hv_ : Below w1.heap.size w1 (w1.alloc (.cells #[.bool bz, .slice R1 kz e1] 27)) := (Below.refl _ _).alloc (Nat.le_refl _) _
       generalize w1.alloc (.cells #[.bool bz, .slice R1 kz e1] 27) = u1 at *
       replace mg := mg.below hv_
       replace q0 := Ka hv_ q0
       replace q1 := Ka hv_ q1
       replace q2 := Ka hv_ q2
       replace q3 := Ka hv_ q3
       replace HB := HB.trans (hv_.mono HB.size)
       clear hv_
       go_region_held3 (fun w' => w'.cell? ⟨w1.heap.size, 0, none⟩ = some (.bool bz) ∧ w'.cell? ⟨w1.heap.size, 1, none⟩ = some (.slice R1 kz e1)) (first | ((try dsimp only); repeat' (first | with_reducible assumption | apply And.intro | (with_reducible refine Kk ?_) | (with_reducible refine Kn ?_) | (with_reducible refine Kh (by first | omega | (simp only [World.size_alloc, World.size_setCell, World.size_drew]; done) | (simp only [World.size_alloc, World.size_setCell, World.size_drew]; omega)) ?_) | (with_reducible refine Ka (W := u1) ?_ ?_) | fail))) (first | (go_at_call 75; (with_reducible refine (H1.out _).mono ?_); rintro e y1 ⟨R2, c2, rfl, mi, hq_⟩; have qy1 : Below u1.heap.size u1 y1 := Kb BG hq_) | (go_at_call 149; (with_reducible refine (HCm.out _ _ _ _ _ (mg.below BG) (mi.below BG)).mono ?_); rintro e y2 ⟨rfl, hq_⟩; have qy2 : Below u1.heap.size u1 y2 := Kb BG hq_))
       all_goals
        go_wp2
        go_roundw
        case rel => exact ⟨k + 1, by omega, by go_num, Kb HB qy2, HN⟩
        case measure => simp [intOf]; omega
      ·obtain rfl : r = false := hall.out false (by rw [hval]; simp [hg1]) rfl
       have hzo : zord ((Nat.gcd (val xs) (val ys) : Nat) : Int) 1 ≠ 0 := by
        unfold zord; split
        ·omega
        ·split
         ·omega
         ·omega
       generalize zord ((Nat.gcd (val xs) (val ys) : Nat) : Int) 1 = zo at *
       have hz1 : (zo != 0) = true := by simp [hzo]
       clear hall hnext hval hg1 hy0 Iz_ I1 hzo
       generalize xs.length = k1 at *
       generalize ys.length = k2 at *
       go_wp2_with fail
       refine (HG.out _ ((Below.refl _ _).alloc (Nat.le_refl _) _)).mono ?_
       rintro e w1 ⟨R1, e1, rfl, mg, h1⟩
       obtain ⟨q0, q1, q2, q3, z0⟩ := newF h1
       have HB : Below w.heap.size w w1 := hbl.trans (((Below.refl _ _).alloc (Nat.le_refl _) _).trans (h1.mono (by simp)) |>.mono hwz)
       have lt_q0 := Kd q0
       go_wp2_with fail
       have t0 := K5 (W := w1) (a := .bool bz) (b := .slice R1 kz e1) (t := 27) rfl
       have t1 := K7 (W := w1) (a := .bool bz) (b := .slice R1 kz e1) (t := 27) rfl
       have hv_ : Below w1.heap.size w1 (w1.alloc (.cells #[.bool bz, .slice R1 kz e1] 27)) := (Below.refl _ _).alloc (Nat.le_refl _) _
       generalize w1.alloc (.cells #[.bool bz, .slice R1 kz e1] 27) = u1 at *
       replace mg := mg.below hv_
       replace q0 := Ka hv_ q0
       replace q1 := Ka hv_ q1
       replace q2 := Ka hv_ q2
       replace q3 := Ka hv_ q3
       replace HB := HB.trans (hv_.mono HB.size)
       clear hv_
       go_region_held3 (fun w' => w'.cell? ⟨w1.heap.size, 0, none⟩ = some (.bool bz) ∧ w'.cell? ⟨w1.heap.size, 1, none⟩ = some (.slice R1 kz e1)) (first | ((try dsimp only); repeat' (first | with_reducible assumption | apply And.intro | (with_reducible refine Kk ?_) | (with_reducible refine Kn ?_) | (with_reducible refine Kh (by first | omega | (simp only [World.size_alloc, World.size_setCell, World.size_drew]; done) | (simp only [World.size_alloc, World.size_setCell, World.size_drew]; omega)) ?_) | (with_reducible refine Ka (W := u1) ?_ ?_) | fail))) (first | (go_at_call 75; (with_reducible refine (H1.out _).mono ?_); rintro e y1 ⟨R2, c2, rfl, mi, hq_⟩; have qy1 : Below u1.heap.size u1 y1 := Kb BG hq_) | (go_at_call 149; (with_reducible refine (HCm.out _ _ _ _ _ (mg.below BG) (mi.below BG)).mono ?_); rintro e y2 ⟨rfl, hq_⟩; have qy2 : Below u1.heap.size u1 y2 := Kb BG hq_))
       all_goals
        go_wp2
        go_ret
        exact ⟨rfl, Kb HB qy2⟩
  ·obtain rfl : k = fs.length := by omega
   have hr : fs.all Rf.v = true := by have := hv.out; rwa [List.take_length] at this
   have hr := hid hr
   clear hv
   go_wp2
   go_ret
   exact ⟨by rw [hr.out] <;> rfl, hbl⟩
def Rf.f (f : Rf) : Int × Nat := (sg f.na (val f.xs), val f.ys)
theorem Rf.ok {f : Rf} (h1 : Ok f.xs) (h2 : Ok f.ys) (h : f.v = true) : f.nb = false ∧ Hid (Fz f.f f.na f.xs.length f.xs f.ys.length f.ys) ∧ Hid (Nf f.f) ∧ f.xs.length ≤ 512 ∧ f.ys.length ≤ 512 := by
 obtain ⟨a, p1, p2, p3, p4, p5, p6⟩ := fvB_ok h1 h2 h
 exact ⟨a, ⟨p1, by unfold Rf.f; rw [Ja]; exact p2, rfl, p3, rfl⟩, p4, p5, p6⟩
/-- two fields of a box written: the world under a name -/
theorem setI2 {W : World} {g : Nat} {b0 : Bool} {A1 : Option Addr} {n1 c1 : Nat} {u0 u1 : Value} {P : World → Prop} (k0 : W.cell? ⟨g, 0, none⟩ = some (.bool b0)) (k1 : W.cell? ⟨g, 1, none⟩ = some (.slice A1 n1 c1))
  (H : ∀ V, V.cell? ⟨g, 0, none⟩ = some u0 → V.cell? ⟨g, 1, none⟩ = some u1 → (∀ b o v, b ≠ g → W.cell? ⟨b, o, none⟩ = some v → V.cell? ⟨b, o, none⟩ = some v) → (∀ A c xs, Mg W A c xs → Mg V A c xs) → (∀ b, Zn W b → Zn V b) → (∀ B a, B ≤ g → Below B a W → Below B a V) → W.heap.size = V.heap.size → P V) :
  P ((W.setCell ⟨g, 0, none⟩ u0).setCell ⟨g, 1, none⟩ u1) :=
 H _ (K6 (by omega) (Q6 k0)) (Q6 (K6 (by omega) k1)) (fun b o v hb h => Kh (Ne.symm hb) (Kh (Ne.symm hb) h))
  (fun A c xs h => (h.set_ g 0 _ u0 k0 (by simp)).set_ g 1 _ u1 ((K0 (by omega)).trans k1) (by simp))
  (fun b h => ⟨by have := h.lt; simpa using this, fun i => by have := h.fr i; simpa using this⟩)
  (fun B a hB h => Kg (Kg h hB _ _) hB _ _) (by simp)
theorem rfat1 {na nb : Bool} {xs ys : List Nat} {A B : Option Addr} {ca cb : Nat} {u : World} (ma : Mg u A ca xs) (mb : Mg u B cb ys) :
  ∀ j (h : j < [(⟨na, A, xs, ca, nb, B, ys, cb⟩ : Rf)].length), RfAt (u.alloc (.cells #[.bool na, .slice A xs.length ca, .bool nb, .slice B ys.length cb] 29)) u.heap.size (j * 4) [(⟨na, A, xs, ca, nb, B, ys, cb⟩ : Rf)][j] := fun j h => by
 obtain ⟨p, _, _⟩ := Ks (w := u) (Below.refl _ (u.alloc (.cells #[.bool na, .slice A xs.length ca, .bool nb, .slice B ys.length cb] 29)))
 match j, h with
 | 0, _ => exact ⟨(p 0).trans rfl, (p 1).trans rfl, (p 2).trans rfl, (p 3).trans rfl, ma.alloc, mb.alloc⟩
theorem RetB.up {u w' : World} {o : Obj} {b : Bool} {e : Ending} (h : RetB (u.alloc o) b e w') : RetB u b e w' := ⟨h.1, ((Below.refl _ _).alloc (Nat.le_refl _) _).trans (h.2.mono (by simp))⟩
theorem Yd.up {u w' : World} {o : Obj} {q : (Int × Nat) × Int} {e : Ending} (h : Yd (u.alloc o) q e w') : Yd u q e w' := by
 obtain ⟨A, c, B, d, h1, h2, h3, h4⟩ := h
 exact ⟨A, c, B, d, h1, h2, h3, ((Below.refl _ _).alloc (Nat.le_refl _) _).trans (h4.mono (by simp))⟩
theorem Frvalid1 {na nb : Bool} {xs ys : List Nat} {A B : Option Addr} {ca cb : Nat} {u : World} (ma : Mg u A ca xs) (mb : Mg u B cb ys) :
  Calls Tryz.prog 124 #[.slice (some ⟨u.heap.size, 0, none⟩) 1 1] (u.alloc (.cells #[.bool na, .slice A xs.length ca, .bool nb, .slice B ys.length cb] 29)) (RetB u (fvB na xs nb ys)) := by
 refine (Frvalid_any [(⟨na, A, xs, ca, nb, B, ys, cb⟩ : Rf)] u.heap.size 1 _ (by simp) (by simp) (by omega) (rfat1 ma mb)).mono fun e w' h => ?_
 have := RetB.up h
 simpa [Rf.v] using this
theorem Fz.raw {f : Int × Nat} {b : Bool} {k l : Nat} {xs ys : List Nat} (h : Fz f b k xs l ys) (nf : Nf f) (h1 : k ≤ 512) (h2 : l ≤ 512) : fvB b xs false ys = true ∧ (sg b (val xs), val ys) = f := by
 obtain ⟨rfl, rfl, rfl, rfl, rfl⟩ := h
 obtain ⟨n, d⟩ := f
 have hd : 0 < d := nf.1
 have hg : Nat.gcd n.natAbs d = 1 := nf.2
 refine ⟨?_, by simp [Kl, Qa]⟩
 unfold fvB
 have v1 := Xu (z := n) h1
 have v2 := Xu (z := (d : Int)) (by unfold fits; simpa using h2)
 rw [show decide ((d : Int) < 0) = false by simp, Int.natAbs_natCast] at v2
 rw [v1, v2]
 have : limbs d ≠ [] := fun h => by have := Jp.1 h; omega
 simp [Kl, this, hg]
section
variable {na nc : Bool} {f g : Int × Nat} {xs ys us vs : List Nat} {A B C D : Option Addr} {ca cb cc cd ka la kb lb : Nat} {u : World} (hf : Fz f na ka xs la ys) (hg : Fz g nc kb us lb vs) (nf : Nf f) (ng : Nf g)
 (ma : Mg u A ca xs) (mb : Mg u B cb ys) (mc : Mg u C cc us) (md : Mg u D cd vs) (h1 : ka ≤ 512) (h2 : la ≤ 512) (h3 : kb ≤ 512) (h4 : lb ≤ 512)
include hf hg nf ng h1 h2 h3 h4
include ma mb mc md
end
set_option maxHeartbeats 1000000 in
theorem Gc {na nb : Bool} {xs ys : List Nat} {A B : Option Addr} {c d : Nat} {w : World} (ha : Mg w A c xs) (hb : Mg w B d ys) :
  Calls Tryz.prog 108 #[.agg #[.bool na, .slice A xs.length c, .bool nb, .slice B ys.length d]] w (RetB w (fvB na xs nb ys)) := by
 have HX := hid fun (w1 : World) (h : Below w.heap.size w w1) => Frvalid1 (na := na) (nb := nb) (u := w1) (ha.below h) (hb.below h)
 generalize fvB na xs nb ys = r at *
 clear ha hb
 generalize xs.length = k at *
 generalize ys.length = l at *
 go_enter Tryz.func108, Tryz.ntmps108
 go_wp2_with fail
 have h0 : Below w.heap.size w (w.alloc (.cells #[.bool na, .slice A k c, .bool nb, .slice B l d] 29)) := (Below.refl _ _).alloc (Nat.le_refl _) _
 have HX2 := HX.out _ h0
 simp only [World.size_alloc] at HX2
 refine HX2.mono ?_
 rintro e w1 ⟨rfl, h1⟩
 go_wp2
 go_ret
 exact ⟨rfl, h0.trans (h1.mono (by simp))⟩
end Go.Proofs.YtdkgbkbbbldliaaGreat
