/- Sampling: Faithful. Conditions: none. -/
import Derived.Test.YtdkgbkbbbldliaaGreatZSJ
import Derived.Test.YtdkgbkbbbldliaaGreatZSI
set_option linter.unusedVariables false
set_option linter.unusedSimpArgs false
namespace Go.Proofs.YtdkgbkbbbldliaaGreat
open Go.RowKit Big
structure GB (v : World) (g : Nat) (X Y : Value) (W : World) : Prop where
 hg : v.heap.size ≤ g
 z : Zn W g
 c0 : W.cell? ⟨g, 0, none⟩ = some X
 c1 : W.cell? ⟨g, 1, none⟩ = some Y
theorem GB.new {v W : World} (h : Below v.heap.size v W) (X Y : Value) (t : TypeId) : GB v W.heap.size X Y (W.alloc (.cells #[X, Y] t)) := ⟨h.size, Zn.new rfl, K5 rfl, K7 rfl⟩
theorem GB.below {v W W' : World} {g : Nat} {X Y : Value} (h : GB v g X Y W) (hb : Below W.heap.size W W') : GB v g X Y W' := ⟨h.hg, h.z.below hb, Ka hb h.c0, Ka hb h.c1⟩
theorem GB.set2 {v W : World} {g : Nat} {X Y : Value} (h : GB v g X Y W) (X' Y' : Value) : GB v g X' Y' ((W.setCell ⟨g, 0, none⟩ X').setCell ⟨g, 1, none⟩ Y') :=
 ⟨h.hg, h.z.set_.set_, K6 (by decide) (Q6 h.c0), Q6 (K6 (by decide) h.c1)⟩
theorem GB.off {v W : World} {g k i : Nat} {X Y u : Value} (h : GB v g X Y W) (hne : k ≠ g) : GB v g X Y (W.setCell ⟨k, i, none⟩ u) := ⟨h.hg, h.z.set_, Kh hne h.c0, Kh hne h.c1⟩
theorem GrV.ne {w : World} {N : List Int} {A : Option Addr} {c : Nat} {B : Option Addr} {k d : Nat} (h : GrV w N A c B k d) (hN : N.length = 9) {g : Nat} {S : Option Addr} {n m : Nat} (h0 : w.cell? ⟨g, 0, none⟩ = some (.slice S n m)) :
  (∀ p, A = some p → p.block ≠ g) ∧ (∀ p, B = some p → p.block ≠ g) := by
 refine ⟨?_, ?_⟩
 ·rintro p hp rfl
  obtain ⟨ga, l, e1, e2, e3, _⟩ := h.e
  obtain rfl := Option.some.inj (e1.symm.trans hp)
  have hl : l.length = 9 := by rw [← List.length_map (·.z), e3, hN]
  match l, hl with
  | e :: l, _ =>
   have := e2 0 (.bool e.b) rfl
   rw [Nat.zero_add] at this
   dsimp only at h0
   rw [h0] at this
   simp at this
 ·rintro p hp rfl
  rcases h.s with ⟨s, _⟩ | ⟨b, s1, _, _, _, s5, _⟩
  ·rw [s] at hp; simp at hp
  ·obtain rfl := Option.some.inj (s1.symm.trans hp)
   match N, hN with
   | z :: N, _ =>
    have := s5 0 (.int .i64 z) rfl
    rw [Nat.zero_add] at this
    dsimp only at h0
    rw [h0] at this
    simp at this
theorem GrV.put {w : World} {N : List Int} {A : Option Addr} {c : Nat} {B : Option Addr} {k d : Nat} (h : GrV w N A c B k d) (hN : N.length = 9) {v : World} {g : Nat} {S T : Option Addr} {n m n' m' : Nat} (hb : GB v g (.slice S n m) (.slice T n' m') w) (x y : Value) :
  GrV ((w.setCell ⟨g, 0, none⟩ x).setCell ⟨g, 1, none⟩ y) N A c B k d :=
 h.set2 hb.c0 hb.c1 (by simp) (by simp) (h.ne hN hb.c0).1 (h.ne hN hb.c0).2
def nilS : Value := .slice none 0 0
structure Grs (v : World) (N M : List Int) (g g' : Nat) (W : World) : Prop where
 b : Below v.heap.size v W
 e : ∃ A c B k d A' c' B' k' d', GB v g (.slice A 9 c) (.slice B k d) W ∧ GB v g' (.slice A' 9 c') (.slice B' k' d') W ∧ GrV W N A c B k d ∧ GrV W M A' c' B' k' d'
theorem Grs.mk2 {v W : World} {N M : List Int} (hN : N.length = 9) (hM : M.length = 9) {g g' : Nat} (hv : Below v.heap.size v W) (b : GB v g nilS nilS W) (b' : GB v g' nilS nilS W) (hne : g ≠ g')
  {A : Option Addr} {c : Nat} {B : Option Addr} {k d : Nat} {A' : Option Addr} {c' : Nat} {B' : Option Addr} {k' d' : Nat} (G : GrV W N A c B k d) (G' : GrV W M A' c' B' k' d') :
  Grs v N M g g' ((((W.setCell ⟨g, 0, none⟩ (.slice A 9 c)).setCell ⟨g, 1, none⟩ (.slice B k d)).setCell ⟨g', 0, none⟩ (.slice A' 9 c')).setCell ⟨g', 1, none⟩ (.slice B' k' d')) := by
 have b1 := b.set2 (.slice A 9 c) (.slice B k d)
 have G1 := G.put hN b (.slice A 9 c) (.slice B k d)
 have G1' := G'.put hM b (.slice A 9 c) (.slice B k d)
 have b2 := (b'.off (k := g) (i := 0) (u := .slice A 9 c) hne).off (k := g) (i := 1) (u := .slice B k d) hne
 exact ⟨Kg (Kg (Kg (Kg hv b.hg _ _) b.hg _ _) b'.hg _ _) b'.hg _ _, A, c, B, k, d, A', c', B', k', d', (b1.off (Ne.symm hne)).off (Ne.symm hne), b2.set2 _ _, G1.put hN b2 _ _, G1'.put hM b2 _ _⟩
theorem Grs.keep {v W W' : World} {N M : List Int} {g g' : Nat} (h : Grs v N M g g' W) (hb : Below W.heap.size W W') : Grs v N M g g' W' := by
 obtain ⟨A, c, B, k, d, A', c', B', k', d', h1, h2, h3, h4⟩ := h.e
 exact ⟨Kb h.b hb, A, c, B, k, d, A', c', B', k', d', h1.below hb, h2.below hb, h3.below hb, h4.below hb⟩
theorem enterGB {v W : World} {P : World → Prop} {X Y : Value} {t : TypeId} (hS : Below v.heap.size v W) (H : ∀ u, Below W.heap.size W u → GB v W.heap.size X Y u → P u) : P (W.alloc (.cells #[X, Y] t)) :=
 H _ ((Below.refl _ _).alloc (Nat.le_refl _) _) (GB.new hS X Y t)
set_option maxRecDepth 100000 in
set_option maxHeartbeats 8000000 in
theorem Xm (fs : List Rf) (h9 : fs.length = 9) {w : World} (hm : ∀ f ∈ fs, f.mg w) (cols rows ww hh : Int) :
  Calls Tryz.prog 21 #[.agg (Kc (zl fs)).toArray, .int .i64 cols, .int .i64 rows, .int .i64 ww, .int .i64 hh] w (RetTE w (fthE (nrmB fs) (oneE adjZ fs).2 (nrmZ fs) (bakZ fs) cols rows ww hh)) := by
 have hi := hid (show (Tryz.prog.info? 32).map (·.size) = some (Kc (zl fs)).length by rw [Kf, Ky, h9]; exact T32i)
 obtain ⟨P, hP⟩ : ∃ P, fthE (nrmB fs) (oneE adjZ fs).2 (nrmZ fs) (bakZ fs) cols rows ww hh = P := ⟨_, rfl⟩
 have hQ : Hid (fthE (nrmB fs) (oneE adjZ fs).2 (nrmZ fs) (bakZ fs) cols rows ww hh = P) := hP
 rw [hP]
 clear hP
 have HVa := hid fun (W : World) (h : Below w.heap.size w W) => V7 fs h9 (w := W) (fun f hf => (hm f hf).below h)
 have HP1 := hid fun (W : World) => Z4 cols rows W
 have HP2 := hid fun (W : World) => Z4 ww hh W
 have HIn := hid fun (x y : Int) (W : World) => Sinside_g x y ww hh W
 have HIv := hid fun (W : World) (h : Below w.heap.size w W) => Ha h9 (w := W) (fun f hf => (hm f hf).below h)
 have hIR := hid fun (hv : nrmB fs = true) (h0 : (oneE adjZ fs).2 = 0) (rf : List Rf) (W : World) => inv_rf (rf := rf) (w := W) h9 hv h0
 have hIE := hid (Ho (fs := fs))
 have hNG := hid fun (hv : nrmB fs = true) (W : World) (h : Below w.heap.size w W) => Z7 fs h9 (w := W) (fun f hf => (hm f hf).below h) hv
 have hNN := hid fun (hv : nrmB fs = true) => Xy h9 hv
 obtain ⟨⟨qz, qe⟩, hq1⟩ : ∃ q, oneE adjZ fs = q := ⟨_, rfl⟩
 rw [hq1] at HIv hIR hIE hQ
 clear hm h9 hq1
 have hFl : ∀ (v : World) (rf : List Rf), rf.length = 9 → (storeCells ⟨v.heap.size, 0, none⟩ (Kc (zl rf))).run Tryz.prog (v.alloc (.cells (Kc Kj).toArray 32)) = .ok () (v.alloc (.cells (Kc (zl rf)).toArray 32)) := fun v rf h => Jw (P := Tryz.prog) (w := v) (l := zl rf) (zs := Kc Kj) 32 (by rw [Kf, Ky, h]; rfl) T32i
 simp only [Kj, List.replicate, Kc, ZE.cells, ZE.zero, List.cons_append, List.nil_append] at hFl
 have hFl := hid hFl
 obtain ⟨d32, hU32, row32⟩ := T32u
 go_enter Tryz.func21, Tryz.ntmps21
 go_upto_region 1 with fail
 refine Kw (P := fun u => Code.wp _ _ _ _ u) (c := Kc (zl fs)) ?_
 intro u HB r1 zn0 hsz
 clear hsz zn0
 go_wp2_with (first | refine wpList_load_mid (by rfl) _ _ (by rfl) w.heap.size 0 (by rfl) (Kc (zl fs)) _ r1 hU32 row32 hi.out ?_ | fail)
 refine (HVa.out u HB).mono ?_
 rintro e v1 ⟨rfl, hv1⟩
 have r1 := Ke r1 hv1
 have HB := Kb HB hv1
 clear HVa hv1
 cases hva : nrmB fs
 ·have HR : Hid (P = (false, 1)) := by unfold Hid; rw [← hQ.out]; unfold fthE; rw [hva]; rfl
  clear hQ HP1 HP2 HIn HIv hIR hIE hNG hNN
  have HBf := hid HB
  clear HB
  go_wp2
  refine bodyPost_ret (v := .tuple #[.bool false, .int .i64 1]) ?_ rfl ?_
  ·simp [results, Tryz.results21, go_sem]
  ·rw [HR.out]
   exact ⟨rfl, HBf.out⟩
 ·have hNG := hid (hNG.out hva)
  have hNN := hNN.out hva
  go_wp2_with fail
  refine (HP1.out v1).mono ?_
  rintro e v2 ⟨rfl, hv2⟩
  have r1 := Ke r1 hv2
  have HB := Kb HB hv2
  clear HP1 hv2
  cases hs : J9 cols rows
  ·have HR : Hid (P = (false, 23)) := by unfold Hid; rw [← hQ.out]; unfold fthE; rw [hva, hs]; rfl
   clear hQ HP2 HIn HIv hIR hIE hNG hNN
   have HBf := hid HB
   clear HB
   go_wp2
   refine bodyPost_ret (v := .tuple #[.bool false, .int .i64 23]) ?_ rfl ?_
   ·simp [results, Tryz.results21, go_sem]
   ·rw [HR.out]
    exact ⟨rfl, HBf.out⟩
  ·go_wp2_with fail
   refine (HP2.out v2).mono ?_
   rintro e v3 ⟨rfl, hv3⟩
   have r1 := Ke r1 hv3
   have HB := Kb HB hv3
   clear HP2 hv3
   cases hs2 : J9 ww hh
   ·have HR : Hid (P = (false, 23)) := by unfold Hid; rw [← hQ.out]; unfold fthE; rw [hva, hs, hs2]; rfl
    clear hQ HIn HIv hIR hIE hNG hNN
    have HBf := hid HB
    clear HB
    go_wp2
    refine bodyPost_ret (v := .tuple #[.bool false, .int .i64 23]) ?_ rfl ?_
    ·simp [results, Tryz.results21, go_sem]
    ·rw [HR.out]
     exact ⟨rfl, HBf.out⟩
   ·go_wp2_with (first | refine wpList_load_mid (by rfl) _ _ (by rfl) w.heap.size 0 (by rfl) (Kc (zl fs)) _ r1 hU32 row32 hi.out ?_ | fail)
    refine (HIv.out v3 HB).mono ?_
    rintro e x1 ⟨rf1, h91, rfl, hz1, ok1, mg1, hq_⟩
    have F1 := hFl.out x1 rf1 h91
    have h361 : (Kc (zl rf1)).length = 36 := by rw [Kf, Ky, h91]
    go_upto_region 6 with fail
    refine Kw (P := fun u => Code.wp _ _ _ _ u) ?_
    intro v4 hv_ s1 sz_ hsz
    have qv4 := Kb hq_ hv_
    have lx1 : x1.heap.size < v4.heap.size := sz_.lt
    have hi1 := hid (show (Tryz.prog.info? 32).map (·.size) = some (Kc (zl rf1)).length by rw [h361]; exact T32i)
    have r1 := Ke r1 qv4
    have ok1 : ∀ e ∈ zl rf1, e.ok v4 := fun e he => (ok1 e he).below hv_
    have mg1 : ∀ f ∈ rf1, f.mg v4 := fun f hf => (mg1 f hf).below hv_
    have HB := Kb HB qv4
    clear F1 sz_ hsz hv_ hq_ h361
    have hIR := hid (hIR.out hva)
    have hIE := hIE.out hva
    clear HIv
    rcases hIE with rfl | rfl
    case inr =>
     have HR : Hid (P = (false, 4)) := by unfold Hid; rw [← hQ.out]; unfold fthE; rw [hva, hs, hs2]; rfl
     clear hQ HIn hIR s1 ok1 mg1 hz1 hNG hNN
     have HBf := hid HB
     clear HB
     go_wp2
     refine bodyPost_ret (v := .tuple #[.bool false, .int .i64 4]) ?_ rfl ?_
     ·simp [results, Tryz.results21, go_sem]
     ·rw [HR.out]
      exact ⟨rfl, HBf.out⟩
    obtain ⟨hv1_, hn1_⟩ := hIR.out rfl rf1 v4 hz1 ok1
    have HN2 := hid fun (W : World) (h : Below v4.heap.size v4 W) => Z7 rf1 h91 (w := W) (fun f hf => (mg1 f hf).below h) hv1_
    obtain ⟨hM9, hMz⟩ := Xy h91 hv1_
    obtain ⟨hN9, hNz⟩ := hNN
    rw [hn1_] at HN2 hM9 hMz
    have HN1 := hid fun (W : World) (h : Below v4.heap.size v4 W) => hNG.out W (Kb HB h)
    clear hIR hn1_ hv1_ hz1 ok1 mg1 hNG
    obtain ⟨a1, a2, a3, a4, a5⟩ := Jj.1 hs
    obtain ⟨C, rfl⟩ := Int.eq_ofNat_of_zero_le (show 0 ≤ cols by omega)
    obtain ⟨R, rfl⟩ := Int.eq_ofNat_of_zero_le (show 0 ≤ rows by omega)
    have hQ0 := hid fun (h : (ptsB (C : Int) (R : Int)).all (Xt (nrmZ fs) (bakZ fs) ww hh) = false) => (show P = (false, 0) by rw [← hQ.out]; unfold fthE; rw [hva, hs, hs2, h]; rfl)
    have hQ1 := hid fun (h : (ptsB (C : Int) (R : Int)).all (Xt (nrmZ fs) (bakZ fs) ww hh) = true) => (show P = (true, 0) by rw [← hQ.out]; unfold fthE; rw [hva, hs, hs2, h]; rfl)
    have hBP := hid fun (x y : Nat) (hx : x < C) (hy : y < R) => back_P (N := nrmZ fs) (M := bakZ fs) (x := (x : Int)) (y := (y : Int)) hs2 ⟨by omega, by omega⟩ ⟨by omega, by omega⟩
    have hBN := hid fun (x y : Nat) (hx : x < C) (hy : y < R) => bkd_no (N := nrmZ fs) (M := bakZ fs) (w := ww) (h := hh) hx hy
    obtain ⟨b1, b2, b3, b4, _⟩ := Jj.1 hs2
    clear a1 a3 a5 hs hs2 hva hQ b1 b3
    generalize bakZ fs = M at *
    generalize nrmZ fs = N at *
    have r1' := hid r1
    have s1' := hid s1
    clear r1 s1
    go_upto_region 8 with fail
    go_cut [14, 15] (fun s14 s15 wx => ∃ g g' : Nat, s14 = .pointer (some ⟨g, 0, none⟩) ∧ s15 = .pointer (some ⟨g', 0, none⟩) ∧ Grs v4 N M g g' wx)
    case first =>
     refine wp_region_held_drew (S := fun w' => Below v4.heap.size v4 w') (by kernel_rfl) ?_ (fun hHeld => ?_)
     ·exact Qj
     have hS : Below v4.heap.size v4 v4.drew := Qj
     generalize v4.drew = vd at *
     refine tk (i := 0) rfl (by decide +kernel) (yieldsIf_load_mid (by rfl) _ _ (by rfl) (w.heap.size) (0) (by rfl) (Kc (zl fs)) _ (fun w_ hS_ => Ke r1'.out hS_) hU32 (by first | rfl | assumption) hi.out) (by assumption) (fun _ _ _ h => h) ?_
     (try simp only [Act.put, Lp0, Lp1, Lp2])
     refine tk (i := 2) rfl (by decide +kernel) (yieldsIf_load_mid (by rfl) _ _ (by rfl) (x1.heap.size) (0) (by rfl) (Kc (zl rf1)) _ (fun w_ hS_ => Ke s1'.out hS_) hU32 (by first | rfl | assumption) hi1.out) (by assumption) (fun _ _ _ h => h) ?_
     (try simp only [Act.put, Lp0, Lp1, Lp2])
     iterate 4
      all_goals (first | (refine wpAnyH_ready (rs := [1, 4, 5]) (by decide +kernel) (by simp) ?_; refine AllReadyH.cons (o := _) rfl (fun K hK => ?_) (AllReadyH.cons (o := _) rfl (fun K hK => ?_) (AllReadyH.cons (o := _) rfl (fun K hK => ?_) AllReadyH.nil))) | (refine wpAnyH_ready (rs := [3, 4, 5]) (by decide +kernel) (by simp) ?_; refine AllReadyH.cons (o := _) rfl (fun K hK => ?_) (AllReadyH.cons (o := _) rfl (fun K hK => ?_) (AllReadyH.cons (o := _) rfl (fun K hK => ?_) AllReadyH.nil))) | refine br2 (i := 4) (j := 5) (by decide +kernel) rfl rfl (fun K hK => ?_) (fun K hK => ?_) | refine br2 (i := 3) (j := 5) (by decide +kernel) rfl rfl (fun K hK => ?_) (fun K hK => ?_) | refine br2 (i := 3) (j := 4) (by decide +kernel) rfl rfl (fun K hK => ?_) (fun K hK => ?_) | refine br2 (i := 1) (j := 4) (by decide +kernel) rfl rfl (fun K hK => ?_) (fun K hK => ?_) | refine br2 (i := 1) (j := 5) (by decide +kernel) rfl rfl (fun K hK => ?_) (fun K hK => ?_) | refine BRa 1 (fun K hK => ?_) | refine BRa 3 (fun K hK => ?_) | refine BRa 4 (fun K hK => ?_) | refine BRa 5 (fun K hK => ?_))
      all_goals (first | (go_simp; go_at_call 33; (with_reducible refine (HN1.out _ hS).mono ?_); rintro e a1 ⟨A1, c1, B1, k1, d1, rfl, G1, hq_⟩; (try have bx := bx.below hq_); (try have by_ := by_.below hq_); have hS := Kb hS hq_; (try go_wp2_with fail); (refine hK.out _ _ ?_ (fun hHeld => ?_); (exact hS); clear hK K; (try simp only [Act.put, Lp0, Lp1, Lp2]))) | (go_simp; go_at_call 33; (with_reducible refine (HN2.out _ hS).mono ?_); rintro e a2 ⟨A2, c2, B2, k2, d2, rfl, G2, hq_⟩; have G1 := G1.below hq_; (try have bx := bx.below hq_); (try have by_ := by_.below hq_); have hS := Kb hS hq_; (try go_wp2_with fail); (refine hK.out _ _ ?_ (fun hHeld => ?_); (exact hS); clear hK K; (try simp only [Act.put, Lp0, Lp1, Lp2]))) | (have hne := Nat.ne_of_lt bx.z.lt; go_simp; refine enterGB (P := fun u => K _ u) hS ?_; intro p_ hal_ by_; have bx := bx.below hal_; (try have G1 := G1.below hal_); (try have G2 := G2.below hal_); have hS := Kb hS hal_; (refine hK.out _ _ ?_ (fun hHeld => ?_); (exact hS); clear hK K; (try simp only [Act.put, Lp0, Lp1, Lp2]))) | (go_simp; refine enterGB (P := fun u => K _ u) hS ?_; intro p_ hal_ bx; (try have G1 := G1.below hal_); (try have G2 := G2.below hal_); have hS := Kb hS hal_; (refine hK.out _ _ ?_ (fun hHeld => ?_); (exact hS); clear hK K; (try simp only [Act.put, Lp0, Lp1, Lp2]))))
     all_goals first
      |
       have hR := hid (Grs.mk2 hN9 hM9 hS bx by_ hne G1 G2)
       have p0 := bx.c0
       have p1 := bx.c1
       have pf := bx.z.fr
       have pl := bx.z.lt
       have hS1 := Kg (Kg hS bx.hg 0 (.slice A1 9 c1)) bx.hg 1 (.slice B1 k1 d1)
       have by_ := (by_.off (i := 0) (u := .slice A1 9 c1) hne).off (i := 1) (u := .slice B1 k1 d1) hne
       have hS2 := Kg (Kg hS1 by_.hg 0 (.slice A2 9 c2)) by_.hg 1 (.slice B2 k2 d2)
       have q0 := by_.c0
       have q1 := by_.c1
       have qf := by_.z.fr
       have ql := by_.z.lt
       refine BRa 6 (fun K hK => ?_)
       go_simp
       skip
       (try go_wp2_with fail)
       refine' HKa hK (by exact hS1) (fun hHeld => ?_)
       clear hK K
       refine BRa 7 (fun K hK => ?_)
       go_simp
       skip
       (try go_wp2_with fail)
       refine' HKa hK (by exact hS2) (fun hHeld => ?_)
       clear hK K
       refine wpAnyH_done (by kernel_rfl) ?_ _
       go_wp2_with fail
       go_meet
       exact ⟨_, _, rfl, rfl, hR.out⟩
      |
       have hR := hid (Grs.mk2 hN9 hM9 hS by_ bx (Ne.symm hne) G1 G2)
       have p0 := by_.c0
       have p1 := by_.c1
       have pf := by_.z.fr
       have pl := by_.z.lt
       have hS1 := Kg (Kg hS by_.hg 0 (.slice A1 9 c1)) by_.hg 1 (.slice B1 k1 d1)
       have bx := (bx.off (i := 0) (u := .slice A1 9 c1) (Ne.symm hne)).off (i := 1) (u := .slice B1 k1 d1) (Ne.symm hne)
       have hS2 := Kg (Kg hS1 bx.hg 0 (.slice A2 9 c2)) bx.hg 1 (.slice B2 k2 d2)
       have q0 := bx.c0
       have q1 := bx.c1
       have qf := bx.z.fr
       have ql := bx.z.lt
       refine BRa 6 (fun K hK => ?_)
       go_simp
       skip
       (try go_wp2_with fail)
       refine' HKa hK (by exact hS1) (fun hHeld => ?_)
       clear hK K
       refine BRa 7 (fun K hK => ?_)
       go_simp
       skip
       (try go_wp2_with fail)
       refine' HKa hK (by exact hS2) (fun hHeld => ?_)
       clear hK K
       refine wpAnyH_done (by kernel_rfl) ?_ _
       go_wp2_with fail
       go_meet
       exact ⟨_, _, rfl, rfl, hR.out⟩
    case rest =>
     obtain ⟨g, g', rfl, rfl, hS⟩ := hcut
     clear HN1 HN2 r1' s1'
     have HB0 := hid HB
     clear HB
     go_wp2
     go_loopw [47] (fun s47 wr => ∃ y : Nat, y ≤ R ∧ s47 = .int .i64 y ∧ Grs v4 N M g g' wr ∧ Hid (Bkd N M ww hh C (y * C))) (fun s47 _ => R - (intOf s47).toNat)
     case atStart => exact ⟨0, by omega, rfl, hS, by rw [Nat.zero_mul]; exact Bkd.zero N M ww hh C⟩
     case round =>
      clear hS
      obtain ⟨y, hy, rfl, hS, hI⟩ := hrel
      by_cases hyR : y < R
      ·have hyi : (y : Int) < (R : Int) := by omega
       go_wp2
       go_loopw [51] (fun s51 wr => ∃ x : Nat, x ≤ C ∧ s51 = .int .i64 x ∧ Grs v4 N M g g' wr ∧ Hid (Bkd N M ww hh C (y * C + x))) (fun s51 _ => C - (intOf s51).toNat)
       case atStart => exact ⟨0, by omega, rfl, hS, hI⟩
       case round =>
        clear hS hI
        obtain ⟨x, hx, rfl, hS, hI⟩ := hrel
        by_cases hxC : x < C
        ·have hxi : (x : Int) < (C : Int) := by omega
         obtain ⟨A1, c1, B1, k1, d1, A2, c2, B2, k2, d2, bb1, bb2, G1, G2⟩ := hS.e
         have HB := Kb HB0.out hS.b
         have HA1 := hid (fun (W : World) (h : Below wr.heap.size wr W) => Sat_g hN9 hNz (G1.below h) (x : Int) (y : Int) ⟨by omega, by omega⟩ ⟨by omega, by omega⟩)
         have HA2 := hid (fun (a b : Int) (ha : 0 ≤ a ∧ a ≤ 4096) (hb : 0 ≤ b ∧ b ≤ 4096) (W : World) (h : Below wr.heap.size wr W) => Sat_g hM9 hMz (G2.below h) a b ha hb)
         have hbp := hBP.out x y hxC hyR
         have hbn := hid (hBN.out x y hxC hyR)
         obtain ⟨⟨px, py, pk⟩, hp⟩ : ∃ p, posP N x y = p := ⟨_, rfl⟩
         rw [hp] at HA1 hbp
         have g0 := bb1.c0
         have g1 := bb1.c1
         have f0 := bb2.c0
         have f1 := bb2.c1
         have hKp := hid (fun (W : World) (h : Below wr.heap.size wr W) => hS.keep h)
         have hbp := hid hbp
         clear hp G1 G2 bb1 bb2 hS
         go_wp2_with fail
         refine (HA1.out wr (Below.refl _ _)).mono ?_
         rintro e w1 ⟨rfl, hw1⟩
         dsimp only
         go_upto_region 16 with fail
         refine Qh (P := fun u => Code.wp _ _ _ _ u) ?_
         intro w2 hw2 p0 p1 zp hsz
         have h12 := Kb hw1 hw2
         have f0 := Ka h12 f0
         have f1 := Ka h12 f1
         have HB := Kb HB h12
         clear hw1 hw2 zp hsz g0 g1 HA1
         have hbp := hbp.out
         (try dsimp only at hbp)
         cases pk
         ·have HR := hid (hQ0.out (hbn.out (by rw [hbp, Bool.false_and])))
          clear hQ0 hQ1 hbn hbp hI hBP hBN HB0 hKp HIn
          have HBf := hid HB
          clear HB
          go_wp2
          refine bodyPost_ret (v := .tuple #[.bool false, .int .i64 0]) ?_ rfl ?_
          ·simp [results, Tryz.results21, go_sem]
          ·rw [HR.out]
           exact ⟨rfl, HBf.out⟩
         ·rw [Bool.true_and] at hbp
          go_wp2_with fail
          refine (HIn.out px py w2).mono ?_
          rintro e w3 ⟨rfl, hw3⟩
          have h13 := Kb h12 hw3
          have f0 := Ka hw3 f0
          have f1 := Ka hw3 f1
          have p0 := Ka hw3 p0
          have p1 := Ka hw3 p1
          have HB := Kb HB hw3
          clear hw3 h12
          cases hin : inB ww hh px py
          ·have HR := hid (hQ0.out (hbn.out (by rw [hbp, hin, Bool.false_and])))
           clear hQ0 hQ1 hbn hbp hI hBP hBN HB0 hKp HIn
           have HBf := hid HB
           clear HB
           go_wp2
           refine bodyPost_ret (v := .tuple #[.bool false, .int .i64 0]) ?_ rfl ?_
           ·simp [results, Tryz.results21, go_sem]
           ·rw [HR.out]
            exact ⟨rfl, HBf.out⟩
          ·rw [hin, Bool.true_and] at hbp
           obtain ⟨i1, i2, i3, i4⟩ := Qd.1 hin
           have HA2 := hid (HA2.out px py ⟨by omega, by omega⟩ ⟨by omega, by omega⟩)
           obtain ⟨⟨qx, qy, qk⟩, hq⟩ : ∃ q, posP M px py = q := ⟨_, rfl⟩
           rw [hq] at HA2 hbp
           have hbp := hid hbp
           clear hq hin i1 i2 i3 i4
           go_wp2_with fail
           refine (HA2.out w3 h13).mono ?_
           rintro e w4 ⟨rfl, hw4⟩
           dsimp only
           go_upto_region 19 with fail
           refine Qh (P := fun u => Code.wp _ _ _ _ u) ?_
           intro w5 hw5 q0 q1 zq hsz
           have h15 := Kb (Kb h13 hw4) hw5
           have HB := Kb (Kb HB hw4) hw5
           clear hw4 hw5 zq hsz HA2 p0 p1 f0 f1
           have hbp := hbp.out
           (try dsimp only at hbp)
           cases qk
           ·have HR := hid (hQ0.out (hbn.out (by rw [hbp, Bool.false_and])))
            clear hQ0 hQ1 hbn hbp hI hBP hBN HB0 hKp HIn
            have HBf := hid HB
            clear HB
            go_wp2
            refine bodyPost_ret (v := .tuple #[.bool false, .int .i64 0]) ?_ rfl ?_
            ·simp [results, Tryz.results21, go_sem]
            ·rw [HR.out]
             exact ⟨rfl, HBf.out⟩
           ·rw [Bool.true_and] at hbp
            by_cases j1 : qx = (x : Int)
            ·by_cases j2 : qy = (y : Int)
             ·have hI' := hid (hI.out.next hxC (by rw [hbp, decide_eq_true j1, decide_eq_true j2]; rfl))
              have hS' := hKp.out w5 h15
              subst j1 j2
              clear hbp hbn hI HB
              go_wp2
              go_roundw
              case rel => exact ⟨x + 1, by omega, by go_num, hS', hI'.out⟩
              case measure => simp [intOf]; omega
             ·have HR := hid (hQ0.out (hbn.out (by rw [hbp, decide_eq_false j2, Bool.and_false])))
              clear hQ0 hQ1 hbn hbp hI hBP hBN HB0 hKp HIn
              have HBf := hid HB
              clear HB
              go_wp2
              refine bodyPost_ret (v := .tuple #[.bool false, .int .i64 0]) ?_ rfl ?_
              ·simp [results, Tryz.results21, go_sem]
              ·rw [HR.out]
               exact ⟨rfl, HBf.out⟩
            ·have HR := hid (hQ0.out (hbn.out (by rw [hbp, decide_eq_false j1, Bool.false_and])))
             clear hQ0 hQ1 hbn hbp hI hBP hBN HB0 hKp HIn
             have HBf := hid HB
             clear HB
             go_wp2
             refine bodyPost_ret (v := .tuple #[.bool false, .int .i64 0]) ?_ rfl ?_
             ·simp [results, Tryz.results21, go_sem]
             ·rw [HR.out]
              exact ⟨rfl, HBf.out⟩
        ·obtain rfl : x = C := by omega
         have hI' := hid (hI.out.row)
         go_wp2
         go_roundw
         case rel => exact ⟨y + 1, by omega, by go_num, hS, hI'⟩
         case measure => simp [intOf]; omega
      ·obtain rfl : y = R := by omega
       have HR := hid (hQ1.out hI.out.all)
       have HB := Kb HB0.out hS.b
       clear hQ0 hQ1 hBP hBN hI HB0 hS
       have HBf := hid HB
       clear HB
       go_wp2
       refine bodyPost_ret (v := .tuple #[.bool true, .int .i64 0]) ?_ rfl ?_
       ·simp [results, Tryz.results21, go_sem]
       ·rw [HR.out]
        exact ⟨rfl, HBf.out⟩
end Go.Proofs.YtdkgbkbbbldliaaGreat
