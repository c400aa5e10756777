/- Package fraction: walks of valid, Valid. Conditions: none. -/
import Derived.Test.YtfdmlfpldgobjaaGreatDoorZYJ
import Derived.Deep.DeepCutAuto
import Derived.Deep.Light
set_option linter.unusedVariables false
set_option linter.unusedSimpArgs false
namespace Go.Proofs.YtfdmlfpldgobjaaGreatDoor
open Go.RowKit Big
/-- a raw fraction: signs, limbs and where they lie -/
structure Rf where
 na : Bool
 A : Option Addr
 xs : List Nat
 ca : Nat
 nb : Bool
 B : Option Addr
 ys : List Nat
 cb : Nat
/-- the fraction lies at g, o -/
structure RfAt (w : World) (g o : Nat) (f : Rf) : Prop where
 c0 : w.cell? ⟨g, o, none⟩ = some (.bool f.na)
 c1 : w.cell? ⟨g, o + 1, none⟩ = some (.slice f.A f.xs.length f.ca)
 c2 : w.cell? ⟨g, o + 2, none⟩ = some (.bool f.nb)
 c3 : w.cell? ⟨g, o + 3, none⟩ = some (.slice f.B f.ys.length f.cb)
 m1 : Mg w f.A f.ca f.xs
 m2 : Mg w f.B f.cb f.ys
theorem RfAt.below {w w' : World} {g o : Nat} {f : Rf} (h : RfAt w g o f) (hb : Below w.heap.size w w') : RfAt w' g o f :=
 ⟨keep_cell hb h.c0, keep_cell hb h.c1, keep_cell hb h.c2, keep_cell hb h.c3, h.m1.below hb, h.m2.below hb⟩
def Rf.v (f : Rf) : Bool := fvB f.na f.xs f.nb f.ys
theorem gcd_raw {na nb : Bool} {xs ys : List Nat} {A B : Option Addr} {c d : Nat} {w : World} (ha : Mg w A c xs) (hb : Mg w B d ys) :
  (validB na xs = true → validB nb ys = true → Calls Tryz.prog 58 #[.agg #[.bool na, .slice A xs.length c], .agg #[.bool nb, .slice B ys.length d]] w (RetZE w (Nat.gcd (val xs) (val ys) : Nat) 0)) ∧
  ((validB na xs && validB nb ys) = false → Calls Tryz.prog 58 #[.agg #[.bool na, .slice A xs.length c], .agg #[.bool nb, .slice B ys.length d]] w (RetZE w 0 1)) := by
 constructor
 ·intro h1 h2
  obtain ⟨x, rfl, rfl, fx⟩ := valid_z ha.ok h1
  obtain ⟨y, rfl, rfl, fy⟩ := valid_z hb.ok h2
  rw [val_limbs, val_limbs]
  exact GCD_ok x y A B c d w ha hb fx fy
 ·intro h
  cases h1 : validB na xs
  ·exact GCD_bad1 na nb xs ys A B c d w ha h1
  ·obtain ⟨x, rfl, rfl, fx⟩ := valid_z ha.ok h1
   rw [h1] at h
   exact GCD_bad2 x nb ys A B c d w ha hb fx (by simpa using h)
set_option maxRecDepth 100000 in
set_option maxHeartbeats 4000000 in
theorem Frvalid_any (fs : List Rf) (g c : Nat) (w : World) (hc : fs.length ≤ c) (hl : fs.length ≤ 1000) (hm : c ≤ 9223372036854775807) (hfs : ∀ j (h : j < fs.length), RfAt w g (j * 4) fs[j]) :
  Calls Tryz.prog 32 #[.slice (some ⟨g, 0, none⟩) fs.length c] w (RetB w (fs.all Rf.v)) := by
 go_enter Tryz.func32, Tryz.ntmps32
 go_wp2
 go_loopw [9] (fun s9 wr => ∃ k : Nat, k ≤ fs.length ∧ s9 = .int .i64 k ∧ Below w.heap.size w wr ∧ Hid ((fs.take k).all Rf.v = true)) (fun s9 _ => fs.length - (intOf s9).toNat)
 case atStart => exact ⟨0, Nat.zero_le _, rfl, Below.refl _ _, by simp [Hid]⟩
 case round =>
  obtain ⟨k, hk, rfl, hbl, hv⟩ := hrel
  by_cases hkl : k < fs.length
  ·have hAt := (hfs k hkl).below hbl
   have hall : ∀ b, fs[k].v = b → b = false → fs.all Rf.v = false := fun b h1 h2 => by
    rw [List.all_eq_false]
    exact ⟨fs[k], List.getElem_mem hkl, by rw [h1, h2]; simp⟩
   have hall := hid hall
   have hnext := hid (fun h : fs[k].v = true => (show (fs.take (k + 1)).all Rf.v = true by rw [List.take_succ_eq_append_getElem hkl, List.all_append, hv.out]; simp [h]))
   generalize fs[k] = f at *
   obtain ⟨na, A, xs, ca, nb, B, ys, cb⟩ := f
   obtain ⟨c0, c1, c2, c3, m1, m2⟩ := hAt
   dsimp only at *
   generalize fs.all Rf.v = r at *
   have hwz := hbl.size
   have hA := m1.cap
   have hA2 := m1.max
   have hB := m2.cap
   have hB2 := m2.max
   cases nb with
   | true =>
    obtain rfl : r = false := hall.out false (by simp [Rf.v, fvB]) rfl
    clear hall hnext m1 m2
    go_wp2
    go_ret
    exact ⟨rfl, hbl.alloc hwz _⟩
   | false =>
    by_cases h0 : ys = []
    ·obtain rfl : r = false := hall.out false (by simp [Rf.v, fvB, h0]) rfl
     subst h0
     clear hall hnext m1 m2
     simp only [List.length_nil] at *
     go_wp2
     go_ret
     exact ⟨rfl, hbl.alloc hwz _⟩
    ·have hl0 : ((ys.length : Int) == 0) = false := by rw [beq_eq_false_iff_ne]; have := List.length_pos_iff.2 h0; omega
     cases hV : (validB na xs && validB false ys)
     ·obtain rfl : r = false := hall.out false (by simp [Rf.v, fvB, hV]) rfl
      have HG := hid fun (w1 : World) (h : Below wr.heap.size wr w1) => (gcd_raw (m1.below h) (m2.below h)).2 hV
      clear hall hnext m1 m2 hV h0
      generalize xs.length = k1 at *
      generalize ys.length = k2 at *
      go_wp2_with fail
      refine (HG.out _ ((Below.refl _ _).alloc (Nat.le_refl _) _)).mono ?_
      rintro e w1 ⟨R1, e1, rfl, mg, h1⟩
      obtain ⟨q0, q1, q2, q3, z0⟩ := newF h1
      have HB : Below w.heap.size w w1 := hbl.trans (((Below.refl _ _).alloc (Nat.le_refl _) _).trans (h1.mono (by simp)) |>.mono hwz)
      have lt_q0 := cell_lt q0
      have hw1 := HB.size
      go_wp2
      go_quiet (fail)
      go_wp2
      go_ret
      exact ⟨rfl, below_drewN (HB.alloc hw1 _) _⟩
     ·simp only [Bool.and_eq_true] at hV
      obtain ⟨v1, v2⟩ := hV
      have p1 := (validB_limbs m1.ok v1).1
      have p2 := (validB_limbs m2.ok v2).1
      have b2 := validB_len v2
      have hy0 : 0 < val ys := by
       rcases Nat.eq_zero_or_pos (val ys) with h | h
       ·rw [h, limbs_zero] at p2; exact absurd p2 h0
       ·exact h
      have hgl : Nat.gcd (val xs) (val ys) ≤ val ys := Nat.gcd_le_right _ hy0
      have hgf : fits ((Nat.gcd (val xs) (val ys) : Nat) : Int) := by
       rw [fits_nat]
       refine Nat.le_trans (limbs_mono hgl) ?_
       rw [← p2]; exact b2
      have hval : (⟨na, A, xs, ca, false, B, ys, cb⟩ : Rf).v = decide (Nat.gcd (val xs) (val ys) = 1) := by
       unfold Rf.v fvB
       simp only [v1, v2]
       simp [h0]
      obtain ⟨bz, kz, Lz_, Iz_⟩ := iz ((Nat.gcd (val xs) (val ys) : Nat) : Int)
      obtain ⟨b1, k1_, L1, I1⟩ := iz 1
      have HG := hid fun (w1 : World) (h : Below wr.heap.size wr w1) => ((gcd_raw (m1.below h) (m2.below h)).1 v1 v2).mono fun e w' h => RetZE.g h Iz_.out
      have H1 := hid fun (w1 : World) => FromInt_g (w := w1) I1.out (by omega) (by omega)
      have HCm := hid fun (w1 : World) (R Q : Option Addr) (c d : Nat) (m : Mg w1 R c Lz_) (m' : Mg w1 Q d L1) => Cmp_g (w := w1) Iz_.out I1.out m m' hgf (by have := valid_int 1 (by omega) (by omega); exact this) _ rfl
      clear m1 m2 v1 v2 p1 p2 b2 hgl hgf h0
      by_cases hg1 : Nat.gcd (val xs) (val ys) = 1
      ·have HN := hid (hnext.out (by rw [hval]; simp [hg1]))
       rw [hg1] at HCm
       rw [show zord ((1 : Nat) : Int) 1 = 0 by decide] at HCm
       clear hall hnext hval hg1 hy0 Iz_ I1
       generalize xs.length = k1 at *
       generalize ys.length = k2 at *
       go_wp2_with fail
       refine (HG.out _ ((Below.refl _ _).alloc (Nat.le_refl _) _)).mono ?_
       rintro e w1 ⟨R1, e1, rfl, mg, h1⟩
       obtain ⟨q0, q1, q2, q3, z0⟩ := newF h1
       have HB : Below w.heap.size w w1 := hbl.trans (((Below.refl _ _).alloc (Nat.le_refl _) _).trans (h1.mono (by simp)) |>.mono hwz)
       have lt_q0 := cell_lt q0
       go_wp2_with fail
       have t0 := at_alloc0 (W := w1) (a := .bool bz) (b := .slice R1 kz e1) (t := 24) rfl
       have t1 := at_alloc1 (W := w1) (a := .bool bz) (b := .slice R1 kz e1) (t := 24) rfl
       have hv_ : Below w1.heap.size w1 (w1.alloc (.cells #[.bool bz, .slice R1 kz e1] 24)) := (Below.refl _ _).alloc (Nat.le_refl _) _
       generalize w1.alloc (.cells #[.bool bz, .slice R1 kz e1] 24) = u1 at *
       replace mg := mg.below hv_
       replace q0 := keep_cell hv_ q0
       replace q1 := keep_cell hv_ q1
       replace q2 := keep_cell hv_ q2
       replace q3 := keep_cell hv_ q3
       replace HB := HB.trans (hv_.mono HB.size)
       clear hv_
       go_region_held3 (fun w' => w'.cell? ⟨w1.heap.size, 0, none⟩ = some (.bool bz) ∧ w'.cell? ⟨w1.heap.size, 1, none⟩ = some (.slice R1 kz e1)) (first | ((try dsimp only); repeat' (first | with_reducible assumption | apply And.intro | (with_reducible refine keep_alloc ?_) | (with_reducible refine keep_drew ?_) | (with_reducible refine keep_set (by first | omega | (simp only [World.size_alloc, World.size_setCell, World.size_drew]; done) | (simp only [World.size_alloc, World.size_setCell, World.size_drew]; omega)) ?_) | (with_reducible refine keep_cell (W := u1) ?_ ?_) | fail))) (first | (go_at_call 38; (with_reducible refine (H1.out _).mono ?_); rintro e y1 ⟨R2, c2, rfl, mi, hq_⟩; have qy1 : Below u1.heap.size u1 y1 := bel_step BG hq_) | (go_at_call 41; (with_reducible refine (HCm.out _ _ _ _ _ (mg.below BG) (mi.below BG)).mono ?_); rintro e y2 ⟨rfl, hq_⟩; have qy2 : Below u1.heap.size u1 y2 := bel_step BG hq_))
       all_goals
        go_wp2
        go_roundw
        case rel => exact ⟨k + 1, by omega, by go_num, bel_step HB qy2, HN⟩
        case measure => simp [intOf]; omega
      ·obtain rfl : r = false := hall.out false (by rw [hval]; simp [hg1]) rfl
       have hzo : zord ((Nat.gcd (val xs) (val ys) : Nat) : Int) 1 ≠ 0 := by
        unfold zord; split
        ·omega
        ·split
         ·omega
         ·omega
       generalize zord ((Nat.gcd (val xs) (val ys) : Nat) : Int) 1 = zo at *
       have hz1 : (zo != 0) = true := by simp [hzo]
       clear hall hnext hval hg1 hy0 Iz_ I1 hzo
       generalize xs.length = k1 at *
       generalize ys.length = k2 at *
       go_wp2_with fail
       refine (HG.out _ ((Below.refl _ _).alloc (Nat.le_refl _) _)).mono ?_
       rintro e w1 ⟨R1, e1, rfl, mg, h1⟩
       obtain ⟨q0, q1, q2, q3, z0⟩ := newF h1
       have HB : Below w.heap.size w w1 := hbl.trans (((Below.refl _ _).alloc (Nat.le_refl _) _).trans (h1.mono (by simp)) |>.mono hwz)
       have lt_q0 := cell_lt q0
       go_wp2_with fail
       have t0 := at_alloc0 (W := w1) (a := .bool bz) (b := .slice R1 kz e1) (t := 24) rfl
       have t1 := at_alloc1 (W := w1) (a := .bool bz) (b := .slice R1 kz e1) (t := 24) rfl
       have hv_ : Below w1.heap.size w1 (w1.alloc (.cells #[.bool bz, .slice R1 kz e1] 24)) := (Below.refl _ _).alloc (Nat.le_refl _) _
       generalize w1.alloc (.cells #[.bool bz, .slice R1 kz e1] 24) = u1 at *
       replace mg := mg.below hv_
       replace q0 := keep_cell hv_ q0
       replace q1 := keep_cell hv_ q1
       replace q2 := keep_cell hv_ q2
       replace q3 := keep_cell hv_ q3
       replace HB := HB.trans (hv_.mono HB.size)
       clear hv_
       go_region_held3 (fun w' => w'.cell? ⟨w1.heap.size, 0, none⟩ = some (.bool bz) ∧ w'.cell? ⟨w1.heap.size, 1, none⟩ = some (.slice R1 kz e1)) (first | ((try dsimp only); repeat' (first | with_reducible assumption | apply And.intro | (with_reducible refine keep_alloc ?_) | (with_reducible refine keep_drew ?_) | (with_reducible refine keep_set (by first | omega | (simp only [World.size_alloc, World.size_setCell, World.size_drew]; done) | (simp only [World.size_alloc, World.size_setCell, World.size_drew]; omega)) ?_) | (with_reducible refine keep_cell (W := u1) ?_ ?_) | fail))) (first | (go_at_call 38; (with_reducible refine (H1.out _).mono ?_); rintro e y1 ⟨R2, c2, rfl, mi, hq_⟩; have qy1 : Below u1.heap.size u1 y1 := bel_step BG hq_) | (go_at_call 41; (with_reducible refine (HCm.out _ _ _ _ _ (mg.below BG) (mi.below BG)).mono ?_); rintro e y2 ⟨rfl, hq_⟩; have qy2 : Below u1.heap.size u1 y2 := bel_step BG hq_))
       all_goals
        go_wp2
        go_ret
        exact ⟨rfl, bel_step HB qy2⟩
  ·obtain rfl : k = fs.length := by omega
   have hr : fs.all Rf.v = true := by have := hv.out; rwa [List.take_length] at this
   have hr := hid hr
   clear hv
   go_wp2
   go_ret
   exact ⟨by rw [hr.out] <;> rfl, hbl⟩
end Go.Proofs.YtfdmlfpldgobjaaGreatDoor
/- Package fraction: the walk of sum. Conditions: none. -/
namespace Go.Proofs.YtfdmlfpldgobjaaGreatDoor
open Go.RowKit Big
def Rf.f (f : Rf) : Int × Nat := (sg f.na (val f.xs), val f.ys)
theorem Rf.ok {f : Rf} (h1 : Ok f.xs) (h2 : Ok f.ys) (h : f.v = true) : f.nb = false ∧ Hid (Fz f.f f.na f.xs.length f.xs f.ys.length f.ys) ∧ Hid (Nf f.f) ∧ f.xs.length ≤ 512 ∧ f.ys.length ≤ 512 := by
 obtain ⟨a, p1, p2, p3, p4, p5, p6⟩ := fvB_ok h1 h2 h
 exact ⟨a, ⟨p1, by unfold Rf.f; rw [natAbs_sg]; exact p2, rfl, p3, rfl⟩, p4, p5, p6⟩
def stepS (p f : Int × Nat) : Int × Nat := (p.1 * f.2 + f.1 * p.2, p.2 * f.2)
def stepP (p f : Int × Nat) : Int × Nat := (p.1 * f.1, p.2 * f.2)
theorem sg_mulR (r : Bool) (q m : Nat) : sg r (q * m) = sg r q * m := by
 unfold sg; split
 ·rw [Int.natCast_mul, Int.neg_mul]
 ·rw [Int.natCast_mul]
theorem mg_cell1 {w : World} {g : Nat} (h : w.cell? ⟨g, 0, none⟩ = some (.int .u32 1)) : Mg w (some ⟨g, 0, none⟩) 1 [1] :=
 ⟨Nat.le_refl _, by omega, by intro x hx; simp at hx; omega, fun _ => ⟨g, 0, rfl, cell_lt h, fun j hj => by match j, hj with | 0, _ => exact h⟩⟩
/-- two fields of a box written: the world under a name -/
theorem setI2 {W : World} {g : Nat} {b0 : Bool} {A1 : Option Addr} {n1 c1 : Nat} {u0 u1 : Value} {P : World → Prop} (k0 : W.cell? ⟨g, 0, none⟩ = some (.bool b0)) (k1 : W.cell? ⟨g, 1, none⟩ = some (.slice A1 n1 c1))
  (H : ∀ V, V.cell? ⟨g, 0, none⟩ = some u0 → V.cell? ⟨g, 1, none⟩ = some u1 → (∀ b o v, b ≠ g → W.cell? ⟨b, o, none⟩ = some v → V.cell? ⟨b, o, none⟩ = some v) → (∀ A c xs, Mg W A c xs → Mg V A c xs) → (∀ b, Zn W b → Zn V b) → (∀ B a, B ≤ g → Below B a W → Below B a V) → W.heap.size = V.heap.size → P V) :
  P ((W.setCell ⟨g, 0, none⟩ u0).setCell ⟨g, 1, none⟩ u1) :=
 H _ (keep_off (by omega) (at_set k0)) (at_set (keep_off (by omega) k1)) (fun b o v hb h => keep_set (Ne.symm hb) (keep_set (Ne.symm hb) h))
  (fun A c xs h => (h.set_ g 0 _ u0 k0 (by simp)).set_ g 1 _ u1 ((cell_set_ne (by omega)).trans k1) (by simp))
  (fun b h => ⟨by have := h.lt; simpa using this, fun i => by have := h.fr i; simpa using this⟩)
  (fun B a hB h => below_set (below_set h hB _ _) hB _ _) (by simp)
/-- the state of the loop of sum and product: the number so far, its box, the denominator, the result's box -/
structure SumSt (w wr : World) (P : Int × Nat) (k gb : Nat) (s5 : Value) : Prop where
 pos : 0 < P.2
 ex : ∃ (r : Bool) (q : Nat) (R : Option Addr) (c kq : Nat) (Lq : List Nat) (D : Option Addr) (cd kd : Nat) (Ld : List Nat), Hid (Lz q kq Lq) ∧ Hid (Lz P.2 kd Ld) ∧ Hid (sg r q = P.1) ∧ wr.cell? ⟨gb, 0, none⟩ = some (.bool r) ∧ wr.cell? ⟨gb, 1, none⟩ = some (.slice R kq c) ∧ Mg wr R c Lq ∧ Mg wr D cd Ld ∧ s5 = .slice D kd cd ∧ kq ≤ 1030 * k + 1 ∧ kd ≤ 1030 * k + 1
 res : ∃ x0 x2 A1 n1 c1 B1 m1 d1, wr.cell? ⟨w.heap.size, 0, none⟩ = some (.bool x0) ∧ wr.cell? ⟨w.heap.size, 1, none⟩ = some (.slice A1 n1 c1) ∧ wr.cell? ⟨w.heap.size, 2, none⟩ = some (.bool x2) ∧ wr.cell? ⟨w.heap.size, 3, none⟩ = some (.slice B1 m1 d1)
 z1 : Zn wr w.heap.size
 z2 : Zn wr gb
set_option maxRecDepth 100000 in
set_option maxHeartbeats 8000000 in
theorem Frsum_nw (fs : List Rf) (g c : Nat) (w : World) (hc : fs.length ≤ c) (hl : fs.length ≤ 2) (hm : c ≤ 9223372036854775807) (hfs : ∀ j (h : j < fs.length), RfAt w g (j * 4) fs[j]) (hv : ∀ j (h : j < fs.length), fs[j].v = true) :
  Calls Tryz.prog 33 #[.slice (some ⟨g, 0, none⟩) fs.length c] w (RetFEn w (lowE ((fs.map Rf.f).foldl stepS (0, 1)).1 ((fs.map Rf.f).foldl stepS (0, 1)).2)) := by
 have hvv := hid hv
 clear hv
 go_enter Tryz.func33, Tryz.ntmps33
 go_wp2_with fail
 refine enterFBI (P := fun u => Code.wp _ _ _ _ u) ?_
 intro u HB q0 q1 q2 q3 r0 s0 s1 z1 z2 z3 hsz
 clear hsz
 have f_z1 := z1.fr
 have f_z2 := z2.fr
 have f_z3 := z3.fr
 have lt_q0 := cell_lt q0
 have lt_r0 := cell_lt r0
 have lt_s0 := cell_lt s0
 go_loopw [5, 13] (fun s5 s13 wr => ∃ k : Nat, k ≤ fs.length ∧ s13 = .int .i64 k ∧ Below w.heap.size w wr ∧ Hid (SumSt w wr (((fs.take k).map Rf.f).foldl stepS (0, 1)) k (w.heap.size + 1 + 1) s5)) (fun _ s13 _ => fs.length - (intOf s13).toNat)
 case atStart => exact ⟨0, Nat.zero_le _, rfl, HB, ⟨by simp, ⟨false, 0, none, 0, 0, [], some ⟨w.heap.size + 1, 0, none⟩, 1, 1, [1], ⟨limbs_zero.symm, rfl⟩, ⟨by simp [limbs_one], rfl⟩, by simp [Hid, sg_zero], s0, s1, mg_nil' _, mg_cell1 r0, rfl, by omega, by omega⟩, ⟨_, _, _, _, _, _, _, _, q0, q1, q2, q3⟩, z1, z3⟩⟩
 case round =>
  clear HB q0 q1 q2 q3 r0 s0 s1 z1 z2 z3 f_z1 f_z2 f_z3 lt_q0 lt_r0 lt_s0
  obtain ⟨k, hk, rfl, hbl, hst⟩ := hrel
  have hpos := hid hst.out.pos
  obtain ⟨r, q, R, cq, kq, Lq, D, cd, kd, Ld, iq, id_, hsg, n0, n1, mq, md, rfl, hkq, hkd⟩ := hst.out.ex
  obtain ⟨x0, x2, A1, nn1, c1, B1, mm1, d1, r0, r1, r2, r3⟩ := hst.out.res
  have z1 := hst.out.z1
  have z2 := hst.out.z2
  have f_z1 := z1.fr
  have f_z2 := z2.fr
  clear hst
  by_cases hkl : k < fs.length
  ·have hAt := (hfs k hkl).below hbl
   obtain ⟨hnb, IF, NF, l1, l2⟩ := Rf.ok hAt.m1.ok hAt.m2.ok (hvv.out k hkl)
   have hnext := hid (show ((fs.take (k + 1)).map Rf.f).foldl stepS (0, 1) = stepS (((fs.take k).map Rf.f).foldl stepS (0, 1)) fs[k].f by rw [List.take_succ_eq_append_getElem hkl, List.map_append, List.foldl_append]; rfl)
   generalize hPk : ((fs.take (k + 1)).map Rf.f).foldl stepS (0, 1) = P' at *
   have HPk := hid hPk
   clear hPk
   generalize ((fs.take k).map Rf.f).foldl stepS (0, 1) = P at *
   generalize fs[k] = f at *
   obtain ⟨na, A, xs, ca, nb, B, ys, cb⟩ := f
   obtain ⟨e0, e1, e2, e3, m1, m2⟩ := hAt
   dsimp only at *
   subst hnb
   generalize (⟨na, A, xs, ca, false, B, ys, cb⟩ : Rf).f = f at *
   generalize xs.length = kx at *
   generalize ys.length = ky at *
   obtain ⟨r', q', hrq⟩ : ∃ r' q', sumS r (q * f.2) na (f.1.natAbs * P.2) = (r', q') := ⟨_, _, rfl⟩
   have hsg' : Hid (sg r' q' = P'.1) := by
    have h := sumS_sg r na (q * f.2) (f.1.natAbs * P.2)
    rw [hrq] at h
    unfold Hid
    rw [h, hnext.out, sg_mulR, hsg.out, IF.out.sgn]
    rfl
   have hP2 : P'.2 = P.2 * f.2 := by rw [hnext.out]; rfl
   have hql : q' ≤ q * f.2 + f.1.natAbs * P.2 := by have := sumS_le r na (q * f.2) (f.1.natAbs * P.2); rwa [hrq] at this
   obtain ⟨k1, L1, I1⟩ := lz (q * f.2)
   obtain ⟨k2, L2, I2⟩ := lz (f.1.natAbs * P.2)
   obtain ⟨k3, L3, I3⟩ := lz q'
   obtain ⟨k4, L4, I4⟩ := lz (P.2 * f.2)
   have b1 : k1 ≤ kq + 512 := I1.out.le (Nat.le_trans (mul_len iq.out IF.out.d) (by omega))
   have b2 : k2 ≤ 512 + kd := I2.out.le (Nat.le_trans (mul_len IF.out.n id_.out) (by omega))
   have b3 : k3 ≤ 1030 * (k + 1) + 1 := I3.out.le (Nat.le_trans (limbs_mono hql) (Nat.le_trans (add_len (c := 1030 * k + 513) (by rw [I1.out.len]; omega) (by rw [I2.out.len]; omega) (Nat.le_refl _) (Nat.le_refl _)) (by omega)))
   have b4 : k4 ≤ kd + 512 := I4.out.le (Nat.le_trans (mul_len id_.out IF.out.d) (by omega))
   have hpos' := hid (show 0 < P'.2 by rw [hP2]; exact Nat.mul_pos hpos.out NF.out.1)
   have HT1 := hid fun (w1 : World) (h : Below wr.heap.size wr w1) => Frmul_g (w := w1) iq.out IF.out.d (mq.below h) (m2.below h) (by omega) (by omega) I1.out
   have HT2 := hid fun (w1 : World) (h : Below wr.heap.size wr w1) => Frtimes_g (w := w1) (an := na) IF.out.n id_.out (m1.below h) (md.below h) (by omega) (by omega) I2.out
   have HP := hid fun (w1 : World) (S T : Option Addr) (c c' : Nat) (m : Mg w1 S c L1) (m' : Mg w1 T c' L2) => Frplus_g (w := w1) I1.out I2.out m m' (by omega) (by omega) hrq I3.out
   have HD := hid fun (w1 : World) (m : Mg w1 D cd Ld) (m' : Mg w1 B cb ys) => Frmul_g (w := w1) id_.out IF.out.d m m' (by omega) (by omega) I4.out
   have I4' : Hid (Lz P'.2 k4 L4) := by unfold Hid; rw [hP2]; exact I4.out
   clear hrq hql hP2 iq id_ IF NF I1 I2 I4 hsg hpos hnext
   have hwz := hbl.size
   have lt_n := cell_lt n0
   have lt_r := cell_lt r0
   go_wp2_with fail
   refine enterF (P := fun v => Code.wp _ _ _ _ v) ?_
   intro v HV t0 t1 t2 t3 z3 _
   have f_z3 := z3.fr
   have HB := hbl
   have hv_ : Below wr.heap.size wr v := Below.trans (b := _) (by repeat (first | assumption | exact Bv _ _ | refine Ba ?_ (by simp; try omega) _ | refine Bd ?_ | refine Bn ?_ _)) (HV.mono (by simp; try omega))
   replace mq := mq.below hv_
   replace md := md.below hv_
   replace m1 := m1.below hv_
   replace m2 := m2.below hv_
   replace n0 := keep_cell hv_ n0
   replace n1 := keep_cell hv_ n1
   replace r0 := keep_cell hv_ r0
   replace r1 := keep_cell hv_ r1
   replace r2 := keep_cell hv_ r2
   replace r3 := keep_cell hv_ r3
   have lt_n0 := cell_lt n0
   have lt_n1 := cell_lt n1
   have lt_r0 := cell_lt r0
   have lt_r1 := cell_lt r1
   have lt_r2 := cell_lt r2
   have lt_r3 := cell_lt r3
   replace z1 := z1.below hv_
   replace z2 := z2.below hv_
   replace f_z1 := z1.fr
   replace f_z2 := z2.fr
   replace HB := HB.trans (hv_.mono HB.size)
   clear hv_
   have lt_t0 := cell_lt t0
   go_cut [8] (fun s1 wx => ∃ (g_ : Nat) (R_ : Option Addr) (c_ : Nat), s1 = .pointer (some ⟨g_, 0, none⟩) ∧ v.heap.size ≤ g_ ∧ Below v.heap.size v wx ∧ Mg wx R_ c_ L1 ∧ wx.cell? ⟨g_, 0, none⟩ = some (.bool r) ∧ wx.cell? ⟨g_, 1, none⟩ = some (.slice R_ k1 c_))
   case first =>
    go_region_held3 (fun w' => (w'.cell? ⟨w.heap.size + 1 + 1, 0, none⟩ = some (.bool r) ∧ w'.cell? ⟨w.heap.size + 1 + 1, 1, none⟩ = some (.slice R kq cq)) ∧ (w'.cell? ⟨wr.heap.size, 3, none⟩ = some (.slice B ky cb))) (first | ((try dsimp only); repeat' (first | with_reducible assumption | apply And.intro | (with_reducible refine keep_alloc ?_) | (with_reducible refine keep_drew ?_) | (with_reducible refine keep_set (by first | omega | (simp only [World.size_alloc, World.size_setCell, World.size_drew]; done) | (simp only [World.size_alloc, World.size_setCell, World.size_drew]; omega)) ?_) | (with_reducible refine keep_cell (W := v) ?_ ?_) | fail))) ((go_at_call 59; (with_reducible refine (HT1.out _ (bel_step HV BG)).mono ?_); rintro e y1 ⟨R1, e1, rfl, p1, hq_⟩; have qy1 : Below v.heap.size v y1 := bel_step BG hq_; obtain ⟨hc10, hf10⟩ := bcell hq_; have hz10 := hq_.size; (try simp only [World.size_alloc, World.size_drew] at hz10); have hs10 := qy1.size; (try have hx1 : v.heap.size < y1.heap.size := by omega)))
    all_goals
     go_wp2_with fail
     go_meet
    all_goals
     go_light
     refine ⟨_, R1, e1, rfl, (by first | omega | (simp; done) | (simp; omega)), BG, ?_, ?_, ?_⟩
    any_goals ((repeat' (first | with_reducible assumption | (with_reducible refine Mg.alloc ?_) | (with_reducible refine Mg.setB ?_ ?_) | (with_reducible refine Mg.setS ?_ ?_) | (with_reducible refine at_alloc0 (by first | omega | (simp only [World.size_alloc, World.size_setCell, World.size_drew]; done) | (simp only [World.size_alloc, World.size_setCell, World.size_drew]; omega))) | (with_reducible refine at_alloc1 (by first | omega | (simp only [World.size_alloc, World.size_setCell, World.size_drew]; done) | (simp only [World.size_alloc, World.size_setCell, World.size_drew]; omega))) | (with_reducible refine keep_alloc ?_) | (with_reducible refine keep_off (by omega) ?_) | (with_reducible refine keep_set (by first | omega | (simp only [World.size_alloc, World.size_setCell, World.size_drew]; done) | (simp only [World.size_alloc, World.size_setCell, World.size_drew]; omega)) ?_) | (with_reducible refine at_setB ?_) | (with_reducible refine at_setS ?_) | (with_reducible refine keep_drew ?_) | (with_reducible refine (hc11 _ _ (by first | omega | (simp only [World.size_alloc, World.size_setCell, World.size_drew]; done) | (simp only [World.size_alloc, World.size_setCell, World.size_drew]; omega))).trans ?_) | (with_reducible refine (hc10 _ _ (by first | omega | (simp only [World.size_alloc, World.size_setCell, World.size_drew]; done) | (simp only [World.size_alloc, World.size_setCell, World.size_drew]; omega))).trans ?_) | fail)); done)
   case rest =>
    obtain ⟨gs, R1, e1, rfl, hgs, hx, p1, p0, pp⟩ := hcut
    have hv_ : Below v.heap.size v wc := Below.trans (b := _) (by repeat (first | assumption | exact Bv _ _ | refine Ba ?_ (by simp; try omega) _ | refine Bd ?_ | refine Bn ?_ _)) (hx.mono (by simp; try omega))
    replace mq := mq.below hv_
    replace md := md.below hv_
    replace m1 := m1.below hv_
    replace m2 := m2.below hv_
    replace n0 := keep_cell hv_ n0
    replace n1 := keep_cell hv_ n1
    replace r0 := keep_cell hv_ r0
    replace r1 := keep_cell hv_ r1
    replace r2 := keep_cell hv_ r2
    replace r3 := keep_cell hv_ r3
    replace t0 := keep_cell hv_ t0
    replace t1 := keep_cell hv_ t1
    replace t2 := keep_cell hv_ t2
    replace t3 := keep_cell hv_ t3
    have lt_n0 := cell_lt n0
    have lt_n1 := cell_lt n1
    have lt_r0 := cell_lt r0
    have lt_r1 := cell_lt r1
    have lt_r2 := cell_lt r2
    have lt_r3 := cell_lt r3
    have lt_t0 := cell_lt t0
    have lt_t1 := cell_lt t1
    have lt_t2 := cell_lt t2
    have lt_t3 := cell_lt t3
    replace z1 := z1.below hv_
    replace z2 := z2.below hv_
    replace z3 := z3.below hv_
    replace f_z1 := z1.fr
    replace f_z2 := z2.fr
    replace f_z3 := z3.fr
    replace HB := HB.trans (hv_.mono HB.size)
    clear hv_
    replace HV := bel_step HV hx
    go_wp2_with fail
    go_region_held3 (fun w' => (w'.cell? ⟨gs, 0, none⟩ = some (.bool r) ∧ w'.cell? ⟨gs, 1, none⟩ = some (.slice R1 k1 e1)) ∧ (w'.cell? ⟨wr.heap.size, 0, none⟩ = some (.bool na) ∧ w'.cell? ⟨wr.heap.size, 1, none⟩ = some (.slice A kx ca))) (first | ((try dsimp only); repeat' (first | with_reducible assumption | apply And.intro | (with_reducible refine keep_alloc ?_) | (with_reducible refine keep_drew ?_) | (with_reducible refine keep_set (by first | omega | (simp only [World.size_alloc, World.size_setCell, World.size_drew]; done) | (simp only [World.size_alloc, World.size_setCell, World.size_drew]; omega)) ?_) | (with_reducible refine keep_cell (W := wc) ?_ ?_) | fail))) (first | (go_at_call 53; (with_reducible refine (HT2.out _ (bel_step HV BG)).mono ?_); rintro e y2 ⟨R2, e2, rfl, p2, hq_⟩; have qy2 : Below wc.heap.size wc y2 := bel_step BG hq_) | (go_at_call 60; (with_reducible refine (HP.out _ _ _ _ _ (p1.below BG) (p2.below BG)).mono ?_); rintro e y3 ⟨R3, e3, rfl, p3, hq_⟩; have qy3 : Below wc.heap.size wc y3 := bel_step BG hq_; have n0 := keep_cell qy3 n0; have n1 := keep_cell qy3 n1; have z2 := z2.below qy3; have f_z2 := z2.fr))
    replace md := md.below qy3
    replace m2 := m2.below qy3
    replace r0 := keep_cell qy3 r0
    replace r1 := keep_cell qy3 r1
    replace r2 := keep_cell qy3 r2
    replace r3 := keep_cell qy3 r3
    replace t0 := keep_cell qy3 t0
    replace t1 := keep_cell qy3 t1
    replace t2 := keep_cell qy3 t2
    replace t3 := keep_cell qy3 t3
    replace z1 := z1.below qy3
    replace HB := bel_step HB qy3
    go_wp2_with fail
    refine setI2 n0 n1 (P := fun V => Calls _ _ _ V _) ?_
    intro V v0 v1 hoth hmg hzn hbel hsz
    have hne1 : w.heap.size ≠ w.heap.size + 1 + 1 := by omega
    have hne2 : wr.heap.size ≠ w.heap.size + 1 + 1 := by omega
    replace r0 := hoth _ _ _ hne1 r0
    replace r1 := hoth _ _ _ hne1 r1
    replace r2 := hoth _ _ _ hne1 r2
    replace r3 := hoth _ _ _ hne1 r3
    replace t2 := hoth _ _ _ hne2 t2
    replace t3 := hoth _ _ _ hne2 t3
    replace md := hmg _ _ _ md
    replace m2 := hmg _ _ _ m2
    replace p3 := hmg _ _ _ p3
    replace z1 := hzn _ z1
    replace z2 := hzn _ z2
    replace HB := hbel _ _ (by omega) HB
    clear hoth hmg hzn hbel hsz n0 n1 t0 t1 p0 pp
    refine (HD.out _ md m2).mono ?_
    rintro e w5 ⟨R4, e4, rfl, p4, h5⟩
    have hv_ : Below V.heap.size V w5 := Below.trans (b := _) (by repeat (first | assumption | exact Bv _ _ | refine Ba ?_ (by simp; try omega) _ | refine Bd ?_ | refine Bn ?_ _)) (h5.mono (by simp; try omega))
    replace p3 := p3.below hv_
    replace z1 := z1.below hv_
    replace z2 := z2.below hv_
    replace v0 := keep_cell hv_ v0
    replace v1 := keep_cell hv_ v1
    replace r0 := keep_cell hv_ r0
    replace r1 := keep_cell hv_ r1
    replace r2 := keep_cell hv_ r2
    replace r3 := keep_cell hv_ r3
    have lt_v0 := cell_lt v0
    have lt_v1 := cell_lt v1
    have lt_r0 := cell_lt r0
    have lt_r1 := cell_lt r1
    have lt_r2 := cell_lt r2
    have lt_r3 := cell_lt r3
    replace HB := HB.trans (hv_.mono HB.size)
    clear hv_
    go_wp2_with fail
    go_roundw
    case rel => exact ⟨k + 1, by omega, by go_num, HB, by rw [HPk.out]; exact ⟨hpos'.out, ⟨r', q', R3, e3, k3, L3, R4, e4, k4, L4, I3, I4', hsg', v0, v1, p3, p4, rfl, b3, by omega⟩, ⟨_, _, _, _, _, _, _, _, r0, r1, r2, r3⟩, z1, z2⟩⟩
    case measure => simp [intOf]; omega
  ·obtain rfl : k = fs.length := by omega
   rw [List.take_length] at *
   generalize (fs.map Rf.f).foldl stepS (0, 1) = P at *
   obtain ⟨p, err, hp⟩ : ∃ p err, lowE P.1 P.2 = (p, err) := ⟨_, _, rfl⟩
   have HPP := hid hp
   obtain ⟨bq, kq', Xq, lq, Yq, IQ⟩ := fz p
   have HL := hid fun (w1 : World) (h : Below wr.heap.size wr w1) => (Frlowest_n (w := w1) iq.out id_.out (mq.below h) (md.below h) (by omega) (by omega) (by have := hpos.out; omega) IQ.out (by rw [hsg.out]; exact hp)).mono fun _ _ => GFn.up (B' := w.heap.size) (Nat.le_trans hbl.size h.size)
   clear hp iq id_ hsg hpos mq md hvv
   have HB := hbl
   go_wp2_with fail
   refine (HL.out _ (Below.refl _ _)).mono ?_
   rintro e w1 ⟨R1, e1, R2, e2, rfl, m1, m2, h1⟩
   have hv_ : Below wr.heap.size wr w1 := Below.trans (b := _) (by repeat (first | assumption | exact Bv _ _ | refine Ba ?_ (by simp; try omega) _ | refine Bd ?_ | refine Bn ?_ _)) (h1.mono (by simp; try omega))
   replace r0 := keep_cell hv_ r0
   replace r1 := keep_cell hv_ r1
   replace r2 := keep_cell hv_ r2
   replace r3 := keep_cell hv_ r3
   have lt_r0 := cell_lt r0
   have lt_r1 := cell_lt r1
   have lt_r2 := cell_lt r2
   have lt_r3 := cell_lt r3
   replace z1 := z1.below hv_
   replace f_z1 := z1.fr
   replace HB := HB.trans (hv_.mono HB.size)
   clear hv_
   go_wp2
   refine bodyPost_ret (v := .tuple #[.agg #[.bool bq, .slice R1 kq' e1, .bool false, .slice R2 lq e2], .int .i64 err]) ?_ rfl ?_
   ·simp [results, Tryz.results33, go_sem, r0, r1, r2, r3]
   ·obtain ⟨j1_, j2_, j3_⟩ := fin_frn m1 m2 HB (by omega) r0 r1 r2 r3 (.bool bq) (.slice R1 kq' e1) (.bool false) (.slice R2 lq e2)
    rw [HPP.out]
    exact GFn.r ⟨R1, e1, R2, e2, rfl, j1_, j2_, j3_⟩ IQ.out
end Go.Proofs.YtfdmlfpldgobjaaGreatDoor
