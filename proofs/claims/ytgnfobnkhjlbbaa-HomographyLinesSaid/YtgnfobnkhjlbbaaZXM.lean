/- Three points on a line: the law's helper flat. Conditions: none. -/
import Derived.Test.YtgnfobnkhjlbbaaZXA
import Derived.Test.YtgnfobnkhjlbbaaZXL
import Derived.Test.YtgnfobnkhjlbbaaZYX
set_option linter.unusedVariables false
set_option linter.unusedSimpArgs false
namespace Go.Proofs.Ytgnfobnkhjlbbaa
open Go.RowKit Big

theorem T26v : ∃ d, Try.prog.underlying 26 = some d ∧ d.isRow = true := ⟨_, Try.underlying26, rfl⟩
theorem T26j : (Try.prog.info? 26).map (·.size) = some 4 := by kernel_rfl
theorem FrSub_z (x y : Rf) {w : World} (mx : x.mg w) (my : y.mg w) : Calls Try.prog 40 #[.agg (cellsM x.ze).toArray, .agg (cellsM y.ze).toArray] w (RetFE w (sbF x y)) := FrSub_any mx.m1 mx.m2 my.m1 my.m2
theorem FrMul_z {f g : Int × Nat} {b b' : Bool} {k l k' l' : Nat} {xs ys us vs : List Nat} (hf : Fz f b k xs l ys) (hg : Fz g b' k' us l' vs) {A B C D : Option Addr} {ca cb cc cd : Nat} {w : World} (ma : Mg w A ca xs) (mb : Mg w B cb ys) (mc : Mg w C cc us) (md : Mg w D cd vs) :
    Calls Try.prog 41 #[.agg [.bool b, .slice A k ca, .bool false, .slice B l cb].toArray, .agg [.bool b', .slice C k' cc, .bool false, .slice D l' cd].toArray] w (RetFE w (mlC f g)) := by
  obtain ⟨rfl, rfl, rfl, rfl, rfl⟩ := hf
  obtain ⟨rfl, rfl, rfl, rfl, rfl⟩ := hg
  exact FrMul_any ma mb mc md
set_option maxRecDepth 100000 in
set_option maxHeartbeats 16000000 in
theorem LFlat_g (ax ay bx bz cx cy : Rf) {w : World} (m1 : ax.mg w) (m2 : ay.mg w) (m3 : bx.mg w) (m4 : bz.mg w) (m5 : cx.mg w) (m6 : cy.mg w) :
    Calls Try.prog 18 #[.agg (cellsM (zl [ax, ay])).toArray, .agg (cellsM (zl [bx, bz])).toArray, .agg (cellsM (zl [cx, cy])).toArray] w (RetB w (flatB ax ay bx bz cx cy)) := by
  have HS1 := hid fun (W : World) (h : Below w.heap.size w W) => FrSub_z bx ax (m3.below h) (m1.below h)
  have HS2 := hid fun (W : World) (h : Below w.heap.size w W) => FrSub_z cy ay (m6.below h) (m2.below h)
  have HS3 := hid fun (W : World) (h : Below w.heap.size w W) => FrSub_z bz ay (m4.below h) (m2.below h)
  have HS4 := hid fun (W : World) (h : Below w.heap.size w W) => FrSub_z cx ax (m5.below h) (m1.below h)
  have hfl : flatB ax ay bx bz cx cy = (decide ((mlC (sbF bx ax).1 (sbF cy ay).1).2 = 0) && decide ((mlC (sbF bz ay).1 (sbF cx ax).1).2 = 0) && (decide ((mlC (sbF bx ax).1 (sbF cy ay).1).1.1 = (mlC (sbF bz ay).1 (sbF cx ax).1).1.1) && decide (((mlC (sbF bx ax).1 (sbF cy ay).1).1.2 : Int) = ((mlC (sbF bz ay).1 (sbF cx ax).1).1.2 : Int)))) := rfl
  rw [hfl]
  clear hfl
  generalize sbF bx ax = P1 at *
  generalize sbF cy ay = P2 at *
  generalize sbF bz ay = P3 at *
  generalize sbF cx ax = P4 at *
  obtain ⟨P1, E1⟩ := P1
  obtain ⟨P2, E2⟩ := P2
  obtain ⟨P3, E3⟩ := P3
  obtain ⟨P4, E4⟩ := P4
  dsimp only
  have HM1 := hid fun (b b' : Bool) (k l k' l' : Nat) (xs ys us vs : List Nat) (hf : Fz P1 b k xs l ys) (hg : Fz P2 b' k' us l' vs) (A B C D : Option Addr) (ca cb cc cd : Nat) (W : World) => FrMul_z hf hg (A := A) (B := B) (C := C) (D := D) (ca := ca) (cb := cb) (cc := cc) (cd := cd) (w := W)
  have HM2 := hid fun (b b' : Bool) (k l k' l' : Nat) (xs ys us vs : List Nat) (hf : Fz P3 b k xs l ys) (hg : Fz P4 b' k' us l' vs) (A B C D : Option Addr) (ca cb cc cd : Nat) (W : World) => FrMul_z hf hg (A := A) (B := B) (C := C) (D := D) (ca := ca) (cb := cb) (cc := cc) (cd := cd) (w := W)
  generalize mlC P1 P2 = M at *
  generalize mlC P3 P4 = N at *
  obtain ⟨M, E5⟩ := M
  obtain ⟨N, E6⟩ := N
  dsimp only
  obtain ⟨b1, k1, xs1, l1, ys1, I1⟩ := fz P1
  obtain ⟨b2, k2, xs2, l2, ys2, I2⟩ := fz P2
  obtain ⟨b3, k3, xs3, l3, ys3, I3⟩ := fz P3
  obtain ⟨b4, k4, xs4, l4, ys4, I4⟩ := fz P4
  obtain ⟨b5, k5, xs5, l5, ys5, I5⟩ := fz M
  obtain ⟨b6, k6, xs6, l6, ys6, I6⟩ := fz N
  obtain ⟨tr, htr⟩ : ∃ t, (decide (M.1 = N.1) && decide ((M.2 : Int) = (N.2 : Int))) = t := ⟨_, rfl⟩
  rw [htr]
  have HSa := hid fun (W : World) (A B C D : Option Addr) (ca cb cc cd : Nat) (ma : Mg W A ca xs5) (mb : Mg W B cb ys5) (mc : Mg W C cc xs6) (md : Mg W D cd ys6) => Lsame_g (w := W) (e0 := ⟨M.1, b5, k5, xs5, A, ca⟩) (e1 := ⟨M.2, false, l5, ys5, B, cb⟩) (f0 := ⟨N.1, b6, k6, xs6, C, cc⟩) (f1 := ⟨N.2, false, l6, ys6, D, cd⟩) ⟨I5.out.num, ma⟩ ⟨I5.out.den, mb⟩ ⟨I6.out.num, mc⟩ ⟨I6.out.den, md⟩ tr htr
  simp only [cellsM, ZE.cells, List.cons_append, List.nil_append] at HSa
  clear m1 m2 m3 m4 m5 m6 htr
  obtain ⟨d26, hU26, row26⟩ := T26v
  go_enter Try.func18, Try.ntmps18
  go_upto_region 1 with fail
  refine enterR3 (P := fun u => Code.wp _ _ _ _ u) ?_
  intro u HB r0 r1 r2 zn0 zn1 zn2 hsz
  have rax : u.rangeAt w.heap.size 0 (cellsM ax.ze) := rng_mid [] ax.ze (ay.ze ++ []) r0
  have ray : u.rangeAt w.heap.size 4 (cellsM ay.ze) := rng_mid ax.ze ay.ze [] r0
  have rbx : u.rangeAt (w.heap.size + 1) 0 (cellsM bx.ze) := rng_mid [] bx.ze (bz.ze ++ []) r1
  have rbz : u.rangeAt (w.heap.size + 1) 4 (cellsM bz.ze) := rng_mid bx.ze bz.ze [] r1
  have rcx : u.rangeAt (w.heap.size + 1 + 1) 0 (cellsM cx.ze) := rng_mid [] cx.ze (cy.ze ++ []) r2
  have rcy : u.rangeAt (w.heap.size + 1 + 1) 4 (cellsM cy.ze) := rng_mid cx.ze cy.ze [] r2
  clear r0 r1 r2 zn0 zn1 zn2 hsz
  go_wp2_with (first | refine wpList_load_mid (by rfl) _ _ (by rfl) (w.heap.size + 1) 0 (by rfl) (cellsM bx.ze) _ rbx hU26 row26 T26j ?_ | refine wpList_load_mid (by rfl) _ _ (by rfl) (w.heap.size) 0 (by rfl) (cellsM ax.ze) _ rax hU26 row26 T26j ?_ | fail)
  refine (HS1.out u HB).mono ?_
  rintro e x1 h_
  obtain ⟨A1, ca1, B1, cb1, rfl, ma1, mb1, hq_⟩ := h_.g I1.out
  go_upto_region 2 with fail
  refine enterR (P := fun u => Code.wp _ _ _ _ u) ?_
  intro v1 hv_ s1 sz_ hsz
  have qv1 := bel_step hq_ hv_
  have rax := rng_below rax qv1
  have ray := rng_below ray qv1
  have rbz := rng_below rbz qv1
  have rcx := rng_below rcx qv1
  have rcy := rng_below rcy qv1
  have ma1 := ma1.below hv_
  have mb1 := mb1.below hv_
  have HB := bel_step HB qv1
  clear sz_ hsz hv_ hq_
  go_wp2_with (first | refine wpList_load_mid (by rfl) _ _ (by rfl) (w.heap.size + 1 + 1) 4 (by rfl) (cellsM cy.ze) _ rcy hU26 row26 T26j ?_ | refine wpList_load_mid (by rfl) _ _ (by rfl) (w.heap.size) 4 (by rfl) (cellsM ay.ze) _ ray hU26 row26 T26j ?_ | fail)
  refine (HS2.out v1 HB).mono ?_
  rintro e x2 h_
  obtain ⟨A2, ca2, B2, cb2, rfl, ma2, mb2, hq_⟩ := h_.g I2.out
  go_upto_region 3 with fail
  refine enterR (P := fun u => Code.wp _ _ _ _ u) ?_
  intro v2 hv_ s2 sz_ hsz
  have qv2 := bel_step hq_ hv_
  have rax := rng_below rax qv2
  have ray := rng_below ray qv2
  have rbz := rng_below rbz qv2
  have rcx := rng_below rcx qv2
  have s1 := rng_below s1 qv2
  have ma1 := ma1.below qv2
  have mb1 := mb1.below qv2
  have ma2 := ma2.below hv_
  have mb2 := mb2.below hv_
  have HB := bel_step HB qv2
  clear sz_ hsz hv_ hq_
  go_wp2_with (first | refine wpList_load_mid (by rfl) _ _ (by rfl) (w.heap.size + 1) 4 (by rfl) (cellsM bz.ze) _ rbz hU26 row26 T26j ?_ | refine wpList_load_mid (by rfl) _ _ (by rfl) (w.heap.size) 4 (by rfl) (cellsM ay.ze) _ ray hU26 row26 T26j ?_ | fail)
  refine (HS3.out v2 HB).mono ?_
  rintro e x3 h_
  obtain ⟨A3, ca3, B3, cb3, rfl, ma3, mb3, hq_⟩ := h_.g I3.out
  go_upto_region 4 with fail
  refine enterR (P := fun u => Code.wp _ _ _ _ u) ?_
  intro v3 hv_ s3 sz_ hsz
  have qv3 := bel_step hq_ hv_
  have rax := rng_below rax qv3
  have rcx := rng_below rcx qv3
  have s1 := rng_below s1 qv3
  have s2 := rng_below s2 qv3
  have ma1 := ma1.below qv3
  have ma2 := ma2.below qv3
  have mb1 := mb1.below qv3
  have mb2 := mb2.below qv3
  have ma3 := ma3.below hv_
  have mb3 := mb3.below hv_
  have HB := bel_step HB qv3
  clear sz_ hsz hv_ hq_
  go_wp2_with (first | refine wpList_load_mid (by rfl) _ _ (by rfl) (w.heap.size + 1 + 1) 0 (by rfl) (cellsM cx.ze) _ rcx hU26 row26 T26j ?_ | refine wpList_load_mid (by rfl) _ _ (by rfl) (w.heap.size) 0 (by rfl) (cellsM ax.ze) _ rax hU26 row26 T26j ?_ | fail)
  refine (HS4.out v3 HB).mono ?_
  rintro e x4 h_
  obtain ⟨A4, ca4, B4, cb4, rfl, ma4, mb4, hq_⟩ := h_.g I4.out
  go_upto_region 5 with fail
  refine enterR (P := fun u => Code.wp _ _ _ _ u) ?_
  intro v4 hv_ s4 sz_ hsz
  have qv4 := bel_step hq_ hv_
  have s1 := rng_below s1 qv4
  have s2 := rng_below s2 qv4
  have s3 := rng_below s3 qv4
  have ma1 := ma1.below qv4
  have ma2 := ma2.below qv4
  have ma3 := ma3.below qv4
  have mb1 := mb1.below qv4
  have mb2 := mb2.below qv4
  have mb3 := mb3.below qv4
  have ma4 := ma4.below hv_
  have mb4 := mb4.below hv_
  have HB := bel_step HB qv4
  clear sz_ hsz hv_ hq_
  go_wp2_with (first | refine wpList_load_mid (by rfl) _ _ (by rfl) (x1.heap.size) 0 (by rfl) [.bool b1, .slice A1 k1 ca1, .bool false, .slice B1 l1 cb1] _ s1 hU26 row26 T26j ?_ | refine wpList_load_mid (by rfl) _ _ (by rfl) (x2.heap.size) 0 (by rfl) [.bool b2, .slice A2 k2 ca2, .bool false, .slice B2 l2 cb2] _ s2 hU26 row26 T26j ?_ | fail)
  refine (HM1.out _ _ _ _ _ _ _ _ _ _ I1.out I2.out _ _ _ _ _ _ _ _ v4 ma1 mb1 ma2 mb2).mono ?_
  rintro e x5 h_
  obtain ⟨A5, ca5, B5, cb5, rfl, ma5, mb5, hq_⟩ := h_.g I5.out
  go_upto_region 6 with fail
  refine enterR (P := fun u => Code.wp _ _ _ _ u) ?_
  intro v5 hv_ s5 sz_ hsz
  have qv5 := bel_step hq_ hv_
  have s3 := rng_below s3 qv5
  have s4 := rng_below s4 qv5
  have ma3 := ma3.below qv5
  have ma4 := ma4.below qv5
  have mb3 := mb3.below qv5
  have mb4 := mb4.below qv5
  have ma5 := ma5.below hv_
  have mb5 := mb5.below hv_
  have HB := bel_step HB qv5
  clear sz_ hsz hv_ hq_
  go_wp2_with (first | refine wpList_load_mid (by rfl) _ _ (by rfl) (x3.heap.size) 0 (by rfl) [.bool b3, .slice A3 k3 ca3, .bool false, .slice B3 l3 cb3] _ s3 hU26 row26 T26j ?_ | refine wpList_load_mid (by rfl) _ _ (by rfl) (x4.heap.size) 0 (by rfl) [.bool b4, .slice A4 k4 ca4, .bool false, .slice B4 l4 cb4] _ s4 hU26 row26 T26j ?_ | fail)
  refine (HM2.out _ _ _ _ _ _ _ _ _ _ I3.out I4.out _ _ _ _ _ _ _ _ v5 ma3 mb3 ma4 mb4).mono ?_
  rintro e x6 h_
  obtain ⟨A6, ca6, B6, cb6, rfl, ma6, mb6, hq_⟩ := h_.g I6.out
  go_upto_region 7 with fail
  refine enterR (P := fun u => Code.wp _ _ _ _ u) ?_
  intro v6 hv_ s6 sz_ hsz
  have qv6 := bel_step hq_ hv_
  have s5 := rng_below s5 qv6
  have ma5 := ma5.below qv6
  have mb5 := mb5.below qv6
  have ma6 := ma6.below hv_
  have mb6 := mb6.below hv_
  have HB := bel_step HB qv6
  clear sz_ hsz hv_ hq_
  by_cases h5 : E5 = 0
  · by_cases h6 : E6 = 0
    · subst h5 h6
      go_wp2_with (first | refine wpList_load_g (by rfl) _ _ (by rfl) (x5.heap.size) 0 (by rfl) [.bool b5, .slice A5 k5 ca5, .bool false, .slice B5 l5 cb5] _ s5 hU26 row26 T26j ?_ | refine wpList_load_g (by rfl) _ _ (by rfl) (x6.heap.size) 0 (by rfl) [.bool b6, .slice A6 k6 ca6, .bool false, .slice B6 l6 cb6] _ s6 hU26 row26 T26j ?_ | fail)
      refine (HSa.out v6 _ _ _ _ _ _ _ _ ma5 mb5 ma6 mb6).mono ?_
      rintro e x7 ⟨rfl, hx7⟩
      go_wp2
      go_ret
      exact ⟨by simp, bel_step HB hx7⟩
    · subst h5
      go_wp2
      go_ret
      exact ⟨by simp [h6], HB⟩
  · go_wp2
    go_ret
    exact ⟨by simp [h5], HB⟩
end Go.Proofs.Ytgnfobnkhjlbbaa
/- The law HomographyLines: its walk. Conditions: none. -/
namespace Go.Proofs.Ytgnfobnkhjlbbaa
open Go.RowKit Big

theorem run_index_H (w : World) (hs : List Rf) (h9 : hs.length = 9) (j : Nat) (hj : j < hs.length) :
    (Instr.index 30 (.agg (cellsM (zl hs)).toArray) (.int .i64 j)).run Try.prog w = .ok (.agg #[.bool hs[j].na, .slice hs[j].A hs[j].xs.length hs[j].ca, .bool hs[j].nb, .slice hs[j].B hs[j].ys.length hs[j].cb]) w := by
  have hl := zl_len hs
  have h := run_index_F w (zl hs) 30 9 (by omega) T30u j (by omega)
  obtain ⟨g1, g2⟩ := zl_get hs j hj
  obtain ⟨_, e1⟩ := List.getElem?_eq_some_iff.1 g1
  obtain ⟨_, e2⟩ := List.getElem?_eq_some_iff.1 g2
  rw [e1, e2] at h
  exact h
def Sml (k : Nat) (f : Rf) : Prop := f.xs.length ≤ k ∧ f.ys.length ≤ k
theorem sml_next {k j : Nat} {fs : List Rf} (h : ∀ f ∈ fs.take j, Sml k f) (hj : j < fs.length) (hf : Sml k fs[j]) : ∀ f ∈ fs.take (j + 1), Sml k f := fun f hm => by
  rw [List.take_succ_eq_append_getElem hj, List.mem_append, List.mem_singleton] at hm
  rcases hm with hm | rfl
  · exact h f hm
  · exact hf
set_option maxRecDepth 100000 in
set_option maxHeartbeats 16000000 in
theorem HomographyLines_law (hs as_ bs cs : List Rf) (h9 : hs.length = 9) (h2a : as_.length = 2) (h2b : bs.length = 2) (h2c : cs.length = 2) {w : World} (hm : ∀ f ∈ hs, f.mg w) (hma : ∀ f ∈ as_, f.mg w) (hmb : ∀ f ∈ bs, f.mg w) (hmc : ∀ f ∈ cs, f.mg w) (hex : ∀ W : World, Calls Try.prog 8 #[] W (RetB W true)) :
    Calls Try.prog 6 #[.agg (cellsM (zl hs)).toArray, .agg (cellsM (zl as_)).toArray, .agg (cellsM (zl bs)).toArray, .agg (cellsM (zl cs)).toArray] w (RetB w true) := by
  obtain ⟨ax, ay, rfl⟩ := two_of h2a
  obtain ⟨bx, bz, rfl⟩ := two_of h2b
  obtain ⟨cx, cy, rfl⟩ := two_of h2c
  have hiH := hid (show (Try.prog.info? 32).map (·.size) = some (cellsM (zl hs)).length by rw [cellsM_len, zl_len, h9]; exact T32i)
  have hiM := hid (show (Try.prog.info? 30).map (·.size) = some (cellsM (zl hs)).length by rw [cellsM_len, zl_len, h9]; kernel_rfl)
  have hia := hid (show (Try.prog.info? 28).map (·.size) = some (cellsM (zl [ax, ay])).length from T28i)
  have hib := hid (show (Try.prog.info? 28).map (·.size) = some (cellsM (zl [bx, bz])).length from T28i)
  have hic := hid (show (Try.prog.info? 28).map (·.size) = some (cellsM (zl [cx, cy])).length from T28i)
  have HEx := hid fun (W : World) (_ : Below w.heap.size w W) => hex W
  have M6 := hid fun (W : World) (h : Below w.heap.size w W) f (hf : f ∈ [ax, ay, bx, bz, cx, cy]) => (show f.mg W from by
    simp only [List.mem_cons, List.not_mem_nil, or_false] at hf
    rcases hf with rfl | rfl | rfl | rfl | rfl | rfl
    · exact (hma _ (by simp)).below h
    · exact (hma _ (by simp)).below h
    · exact (hmb _ (by simp)).below h
    · exact (hmb _ (by simp)).below h
    · exact (hmc _ (by simp)).below h
    · exact (hmc _ (by simp)).below h)
  have M9 := hid fun (W : World) (h : Below w.heap.size w W) f (hf : f ∈ hs) => (hm f hf).below h
  have HFl := hid fun (W : World) (h : Below w.heap.size w W) => LFlat_g ax ay bx bz cx cy (w := W) ((hma _ (by simp)).below h) ((hma _ (by simp)).below h) ((hmb _ (by simp)).below h) ((hmb _ (by simp)).below h) ((hmc _ (by simp)).below h) ((hmc _ (by simp)).below h)
  have HA1 := hid fun (W : World) (h : Below w.heap.size w W) => LApply_h h9 h2a (w := W) (M9.out W h) (fun f hf => (hma f hf).below h)
  have HA2 := hid fun (W : World) (h : Below w.heap.size w W) => LApply_h h9 h2b (w := W) (M9.out W h) (fun f hf => (hmb f hf).below h)
  have HA3 := hid fun (W : World) (h : Below w.heap.size w W) => LApply_h h9 h2c (w := W) (M9.out W h) (fun f hf => (hmc f hf).below h)
  have HLaw := hid fun (s2 : ∀ f ∈ hs, Sml 2 f) (s8 : ∀ f ∈ [ax, ay, bx, bz, cx, cy], Sml 8 f) (hfl : flatB ax ay bx bz cx cy = true) (lp lq lr : List Int) (e1 : aplE hs [ax, ay] = (lp, 0)) (e2 : aplE hs [bx, bz] = (lq, 0)) (e3 : aplE hs [cx, cy] = (lr, 0)) =>
    fun (W1 W2 W3 : World) (px py qx qy rx ry : Rf) (zp : (zl [px, py]).map (·.z) = lp) (zq : (zl [qx, qy]).map (·.z) = lq) (zr : (zl [rx, ry]).map (·.z) = lr) (op : ∀ e ∈ zl [px, py], e.ok W1) (oq : ∀ e ∈ zl [qx, qy], e.ok W2) (or_ : ∀ e ∈ zl [rx, ry], e.ok W3) =>
    lines_law h9 hm hma hmb hmc s2 (fun f hf => s8 f (by simp at hf ⊢; rcases hf with rfl | rfl <;> simp)) (fun f hf => s8 f (by simp at hf ⊢; rcases hf with rfl | rfl <;> simp)) (fun f hf => s8 f (by simp at hf ⊢; rcases hf with rfl | rfl <;> simp)) hfl e1 e2 e3 zp zq zr op oq or_
  have HIx := hid fun (W : World) (j : Nat) (hj : j < hs.length) => run_index_H W hs h9 j hj
  obtain ⟨fb, hfb⟩ : ∃ b, flatB ax ay bx bz cx cy = b := ⟨_, rfl⟩
  obtain ⟨⟨L1, E1⟩, hq1⟩ : ∃ q, aplE hs [ax, ay] = q := ⟨_, rfl⟩
  obtain ⟨⟨L2, E2⟩, hq2⟩ : ∃ q, aplE hs [bx, bz] = q := ⟨_, rfl⟩
  obtain ⟨⟨L3, E3⟩, hq3⟩ : ∃ q, aplE hs [cx, cy] = q := ⟨_, rfl⟩
  rw [hfb] at HFl
  rw [hq1] at HA1
  rw [hq2] at HA2
  rw [hq3] at HA3
  have hfb := hid hfb
  have hq1 := hid hq1
  have hq2 := hid hq2
  have hq3 := hid hq3
  have h9 := hid h9
  clear hm hma hmb hmc hex h2a h2b h2c
  have hFp : ∀ (v : World) (rf : List Rf), rf.length = 2 → (storeCells ⟨v.heap.size, 0, none⟩ (cellsM (zl rf))).run Try.prog (v.alloc (.cells (cellsM zeros4).toArray 28)) = .ok () (v.alloc (.cells (cellsM (zl rf)).toArray 28)) := fun v rf h => store_newN (P := Try.prog) (w := v) (l := zl rf) (zs := cellsM zeros4) 28 (by rw [cellsM_len, zl_len, h]; rfl) T28i
  simp only [zeros4, List.replicate, cellsM, ZE.cells, ZE.zero, List.cons_append, List.nil_append] at hFp
  have hFp := hid hFp
  obtain ⟨d28, hU28, row28⟩ := T28u
  obtain ⟨d32, hU32, row32⟩ := T32u
  go_enter Try.func6, Try.ntmps6
  go_upto_region 1 with fail
  refine enterR4 (P := fun u => Code.wp _ _ _ _ u) ?_
  intro u HB r0 r1 r2 r3 zn3 hsz
  have lt3 := zn3.lt
  clear zn3 hsz
  have P := And.intro r1 (And.intro r2 r3)
  have P := hid P
  have c000 : u.cell? ⟨w.heap.size + 1, 0, none⟩ = some (.bool ax.na) := r1 0 _ rfl
  have c001 : u.cell? ⟨w.heap.size + 1, 1, none⟩ = some (.slice ax.A ax.xs.length ax.ca) := r1 1 _ rfl
  have c002 : u.cell? ⟨w.heap.size + 1, 2, none⟩ = some (.bool ax.nb) := r1 2 _ rfl
  have c003 : u.cell? ⟨w.heap.size + 1, 3, none⟩ = some (.slice ax.B ax.ys.length ax.cb) := r1 3 _ rfl
  have c010 : u.cell? ⟨w.heap.size + 1, 4, none⟩ = some (.bool ay.na) := r1 4 _ rfl
  have c011 : u.cell? ⟨w.heap.size + 1, 5, none⟩ = some (.slice ay.A ay.xs.length ay.ca) := r1 5 _ rfl
  have c012 : u.cell? ⟨w.heap.size + 1, 6, none⟩ = some (.bool ay.nb) := r1 6 _ rfl
  have c013 : u.cell? ⟨w.heap.size + 1, 7, none⟩ = some (.slice ay.B ay.ys.length ay.cb) := r1 7 _ rfl
  have c100 : u.cell? ⟨w.heap.size + 1 + 1, 0, none⟩ = some (.bool bx.na) := r2 0 _ rfl
  have c101 : u.cell? ⟨w.heap.size + 1 + 1, 1, none⟩ = some (.slice bx.A bx.xs.length bx.ca) := r2 1 _ rfl
  have c102 : u.cell? ⟨w.heap.size + 1 + 1, 2, none⟩ = some (.bool bx.nb) := r2 2 _ rfl
  have c103 : u.cell? ⟨w.heap.size + 1 + 1, 3, none⟩ = some (.slice bx.B bx.ys.length bx.cb) := r2 3 _ rfl
  have c110 : u.cell? ⟨w.heap.size + 1 + 1, 4, none⟩ = some (.bool bz.na) := r2 4 _ rfl
  have c111 : u.cell? ⟨w.heap.size + 1 + 1, 5, none⟩ = some (.slice bz.A bz.xs.length bz.ca) := r2 5 _ rfl
  have c112 : u.cell? ⟨w.heap.size + 1 + 1, 6, none⟩ = some (.bool bz.nb) := r2 6 _ rfl
  have c113 : u.cell? ⟨w.heap.size + 1 + 1, 7, none⟩ = some (.slice bz.B bz.ys.length bz.cb) := r2 7 _ rfl
  have c200 : u.cell? ⟨w.heap.size + 1 + 1 + 1, 0, none⟩ = some (.bool cx.na) := r3 0 _ rfl
  have c201 : u.cell? ⟨w.heap.size + 1 + 1 + 1, 1, none⟩ = some (.slice cx.A cx.xs.length cx.ca) := r3 1 _ rfl
  have c202 : u.cell? ⟨w.heap.size + 1 + 1 + 1, 2, none⟩ = some (.bool cx.nb) := r3 2 _ rfl
  have c203 : u.cell? ⟨w.heap.size + 1 + 1 + 1, 3, none⟩ = some (.slice cx.B cx.ys.length cx.cb) := r3 3 _ rfl
  have c210 : u.cell? ⟨w.heap.size + 1 + 1 + 1, 4, none⟩ = some (.bool cy.na) := r3 4 _ rfl
  have c211 : u.cell? ⟨w.heap.size + 1 + 1 + 1, 5, none⟩ = some (.slice cy.A cy.xs.length cy.ca) := r3 5 _ rfl
  have c212 : u.cell? ⟨w.heap.size + 1 + 1 + 1, 6, none⟩ = some (.bool cy.nb) := r3 6 _ rfl
  have c213 : u.cell? ⟨w.heap.size + 1 + 1 + 1, 7, none⟩ = some (.slice cy.B cy.ys.length cy.cb) := r3 7 _ rfl
  clear r1 r2 r3
  go_upto_region 2 with fail
  clear c000 c001 c002 c003 c010 c011 c012 c013 c100 c101 c102 c103 c110 c111 c112 c113 c200 c201 c202 c203 c210 c211 c212 c213
  refine enterR (P := fun u => Code.wp _ _ _ _ u) (c := cellsM (zl [ax, ay, bx, bz, cx, cy])) ?_
  intro v hv rS zS hsz
  obtain ⟨p1, p2, p3⟩ := P.out
  have Q := hid (And.intro (rng_below r0 hv) (And.intro (rng_below p1 hv) (And.intro (rng_below p2 hv) (rng_below p3 hv))))
  have RS := hid rS
  have lt4 := zS.lt
  have HB := bel_step HB hv
  have hBv := Below.refl v.heap.size v
  clear r0 P rS zS hsz hv p1 p2 p3
  obtain ⟨gS, hgS⟩ : ∃ gS, gS = u.heap.size := ⟨_, rfl⟩
  rw [← hgS] at RS lt4 ⊢
  clear hgS lt3
  obtain ⟨fs, hfs⟩ : ∃ fs, fs = [ax, ay, bx, bz, cx, cy] := ⟨_, rfl⟩
  have h6 : fs.length = 6 := by rw [hfs]; rfl
  rw [← hfs] at RS M6 HLaw
  have hfs := hid hfs
  have h6 := hid h6
  go_loopw [33] (fun s33 wr => ∃ j : Nat, j ≤ 6 ∧ s33 = .int .i64 j ∧ Below v.heap.size v wr ∧ Hid (∀ f ∈ fs.take j, Sml 8 f)) (fun s33 _ => 6 - (intOf s33).toNat)
  case atStart => exact ⟨0, by omega, rfl, hBv, by simp [Hid]⟩
  case round =>
    obtain ⟨j, hj, rfl, hbl, hsm⟩ := hrel
    clear hBv
    have HBr := bel_step HB hbl
    by_cases hj6 : j < 6
    · have hjf : j < fs.length := by rw [h6.out]; exact hj6
      have hAt := rf_at (rng_below RS.out hbl) (M6.out wr HBr) j hjf
      have hji : (j : Int) < 6 := by omega
      have hnx := hid fun (h : Sml 8 fs[j]) => sml_next hsm.out hjf h
      have hsz := hbl.size
      generalize fs[j] = f at *
      obtain ⟨na, A, xs, ca, nb, B, ys, cb⟩ := f
      obtain ⟨c0, c1, c2, c3, m1, m2⟩ := hAt
      dsimp only at *
      have hX : Hid (Sml 8 ⟨na, A, xs, ca, nb, B, ys, cb⟩ ↔ xs.length ≤ 8 ∧ ys.length ≤ 8) := Iff.rfl
      clear m1 m2 hsm
      generalize xs.length = k1 at *
      generalize ys.length = k2 at *
      by_cases h1 : k1 ≤ 8
      · have h1i : (k1 : Int) ≤ 8 := by omega
        by_cases h2 : k2 ≤ 8
        · have h2i : (k2 : Int) ≤ 8 := by omega
          have hN := hid (hnx.out (hX.out.2 ⟨h1, h2⟩))
          clear hnx hX
          go_wp2
          go_roundw
          case rel => exact ⟨j + 1, by omega, by go_num, hbl.alloc hsz _, hN.out⟩
          case measure => simp [intOf]; omega
        · have h2i : (8 : Int) < k2 := by omega
          go_wp2_with fail
          refine (HEx.out _ (HBr.alloc HBr.size _)).mono ?_
          rintro e x_ ⟨rfl, hx_⟩
          go_wp2
          go_ret
          exact ⟨by simp, bel_step (HBr.alloc HBr.size _) hx_⟩
      · have h1i : (8 : Int) < k1 := by omega
        go_wp2_with fail
        refine (HEx.out _ (HBr.alloc HBr.size _)).mono ?_
        rintro e x_ ⟨rfl, hx_⟩
        go_wp2
        go_ret
        exact ⟨by simp, bel_step (HBr.alloc HBr.size _) hx_⟩
    · obtain rfl : j = 6 := by omega
      have hS8 : Hid (∀ f ∈ fs, Sml 8 f) := by
        have := hsm.out
        rw [← h6.out, List.take_length] at this
        exact this
      obtain ⟨q0, q1, q2, q3⟩ := Q.out
      have q0 := rng_below q0 hbl
      have Q := hid (And.intro q0 (And.intro (rng_below q1 hbl) (And.intro (rng_below q2 hbl) (rng_below q3 hbl))))
      have hBw := Below.refl wr.heap.size wr
      clear q1 q2 q3 RS hsm hbl
      go_wp2_with (first | refine wpList_load_mid (by rfl) _ _ (by rfl) w.heap.size 0 (by rfl) (cellsM (zl hs)) _ q0 T30u (by rfl) hiM.out ?_ | fail)
      clear q0
      obtain ⟨wo, hwo⟩ : ∃ wo, wo = wr := ⟨_, rfl⟩
      rw [← hwo] at Q HBr hBw ⊢
      clear hwo
      go_loopw [53] (fun s53 wr => ∃ j : Nat, j ≤ 9 ∧ s53 = .int .i64 j ∧ Below wo.heap.size wo wr ∧ Hid (∀ f ∈ hs.take j, Sml 2 f)) (fun s53 _ => 9 - (intOf s53).toNat)
      case atStart => exact ⟨0, by omega, rfl, hBw, by simp [Hid]⟩
      case round =>
        obtain ⟨j, hj, rfl, hbl, hsm⟩ := hrel
        clear hBw
        have HBr := bel_step HBr hbl
        by_cases hj9 : j < 9
        · have hjf : j < hs.length := by rw [h9.out]; exact hj9
          have hix := HIx.out wr j hjf
          have hji : (j : Int) < 9 := by omega
          have hnx := hid fun (h : Sml 2 hs[j]) => sml_next hsm.out hjf h
          have hsz := hbl.size
          generalize hs[j] = f at *
          obtain ⟨na, A, xs, ca, nb, B, ys, cb⟩ := f
          dsimp only at *
          have hX : Hid (Sml 2 ⟨na, A, xs, ca, nb, B, ys, cb⟩ ↔ xs.length ≤ 2 ∧ ys.length ≤ 2) := Iff.rfl
          clear hsm
          generalize xs.length = k1 at *
          generalize ys.length = k2 at *
          by_cases h1 : k1 ≤ 2
          · have h1i : (k1 : Int) ≤ 2 := by omega
            by_cases h2 : k2 ≤ 2
            · have h2i : (k2 : Int) ≤ 2 := by omega
              have hN := hid (hnx.out (hX.out.2 ⟨h1, h2⟩))
              clear hnx hX
              go_wp2
              go_roundw
              case rel => exact ⟨j + 1, by omega, by go_num, hbl.alloc hsz _, hN.out⟩
              case measure => simp [intOf]; omega
            · have h2i : (2 : Int) < k2 := by omega
              go_wp2_with fail
              refine (HEx.out _ (HBr.alloc HBr.size _)).mono ?_
              rintro e x_ ⟨rfl, hx_⟩
              go_wp2
              go_ret
              exact ⟨by simp, bel_step (HBr.alloc HBr.size _) hx_⟩
          · have h1i : (2 : Int) < k1 := by omega
            go_wp2_with fail
            refine (HEx.out _ (HBr.alloc HBr.size _)).mono ?_
            rintro e x_ ⟨rfl, hx_⟩
            go_wp2
            go_ret
            exact ⟨by simp, bel_step (HBr.alloc HBr.size _) hx_⟩
        · obtain rfl : j = 9 := by omega
          have hS2 : Hid (∀ f ∈ hs, Sml 2 f) := by
            have := hsm.out
            rw [← h9.out, List.take_length] at this
            exact this
          obtain ⟨q0, q1, q2, q3⟩ := Q.out
          have r0 := rng_below q0 hbl
          have r1 := rng_below q1 hbl
          have r2 := rng_below q2 hbl
          have r3 := rng_below q3 hbl
          have HB := HBr
          clear q0 q1 q2 q3 Q hsm hbl HIx hiM HBr lt4
          cases fb
          · go_wp2_with (first | refine wpList_load_mid (by rfl) _ _ (by rfl) (w.heap.size + 1) 0 (by rfl) (cellsM (zl [ax, ay])) _ r1 hU28 row28 hia.out ?_ | refine wpList_load_mid (by rfl) _ _ (by rfl) (w.heap.size + 1 + 1) 0 (by rfl) (cellsM (zl [bx, bz])) _ r2 hU28 row28 hib.out ?_ | refine wpList_load_mid (by rfl) _ _ (by rfl) (w.heap.size + 1 + 1 + 1) 0 (by rfl) (cellsM (zl [cx, cy])) _ r3 hU28 row28 hic.out ?_ | fail)
            refine (HFl.out _ HB).mono ?_
            rintro e x0 ⟨rfl, hq_⟩
            have HB := bel_step HB hq_
            go_wp2_with fail
            refine (HEx.out x0 HB).mono ?_
            rintro e x_ ⟨rfl, hx_⟩
            go_wp2
            go_ret
            exact ⟨by simp, bel_step HB hx_⟩
          · go_wp2_with (first | refine wpList_load_mid (by rfl) _ _ (by rfl) (w.heap.size + 1) 0 (by rfl) (cellsM (zl [ax, ay])) _ r1 hU28 row28 hia.out ?_ | refine wpList_load_mid (by rfl) _ _ (by rfl) (w.heap.size + 1 + 1) 0 (by rfl) (cellsM (zl [bx, bz])) _ r2 hU28 row28 hib.out ?_ | refine wpList_load_mid (by rfl) _ _ (by rfl) (w.heap.size + 1 + 1 + 1) 0 (by rfl) (cellsM (zl [cx, cy])) _ r3 hU28 row28 hic.out ?_ | fail)
            refine (HFl.out _ HB).mono ?_
            rintro e x0 ⟨rfl, hq_⟩
            have HB := bel_step HB hq_
            have r0 := rng_below r0 hq_
            have r1 := rng_below r1 hq_
            have r2 := rng_below r2 hq_
            have r3 := rng_below r3 hq_
            clear hq_ HFl
            go_wp2_with (first | refine wpList_load_mid (by rfl) _ _ (by rfl) (w.heap.size) 0 (by rfl) (cellsM (zl hs)) _ r0 hU32 row32 hiH.out ?_ | refine wpList_load_mid (by rfl) _ _ (by rfl) (w.heap.size + 1) 0 (by rfl) (cellsM (zl [ax, ay])) _ r1 hU28 row28 hia.out ?_ | fail)
            refine (HA1.out x0 HB).mono ?_
            rintro e x1 ⟨rf1, h21, rfl, hz1, ok1, mg1, hq_⟩
            have F1 := hFp.out x1 rf1 h21
            have h81 : (cellsM (zl rf1)).length = 8 := by rw [cellsM_len, zl_len, h21]
            go_upto_region 16 with fail
            refine enterR (P := fun u => Code.wp _ _ _ _ u) ?_
            intro v1 hv_ s1 sz_ hsz
            have qv1 := bel_step hq_ hv_
            have hi1 := hid (show (Try.prog.info? 28).map (·.size) = some (cellsM (zl rf1)).length by rw [h81]; exact T28i)
            have r0 := rng_below r0 qv1
            have r2 := rng_below r2 qv1
            have r3 := rng_below r3 qv1
            have ok1 : ∀ e ∈ zl rf1, e.ok v1 := fun e he => (ok1 e he).below hv_
            have mg1 : ∀ f ∈ rf1, f.mg v1 := fun f hf => (mg1 f hf).below hv_
            have HB := bel_step HB qv1
            clear F1 sz_ hsz hv_ hq_ h81
            go_wp2_with (first | refine wpList_load_mid (by rfl) _ _ (by rfl) (w.heap.size) 0 (by rfl) (cellsM (zl hs)) _ r0 hU32 row32 hiH.out ?_ | refine wpList_load_mid (by rfl) _ _ (by rfl) (w.heap.size + 1 + 1) 0 (by rfl) (cellsM (zl [bx, bz])) _ r2 hU28 row28 hib.out ?_ | fail)
            refine (HA2.out v1 HB).mono ?_
            rintro e x2 ⟨rf2, h22, rfl, hz2, ok2, mg2, hq_⟩
            have F1 := hFp.out x2 rf2 h22
            have h82 : (cellsM (zl rf2)).length = 8 := by rw [cellsM_len, zl_len, h22]
            go_upto_region 17 with fail
            refine enterR (P := fun u => Code.wp _ _ _ _ u) ?_
            intro v2 hv_ s2 sz_ hsz
            have qv2 := bel_step hq_ hv_
            have hi2 := hid (show (Try.prog.info? 28).map (·.size) = some (cellsM (zl rf2)).length by rw [h82]; exact T28i)
            have r0 := rng_below r0 qv2
            have r3 := rng_below r3 qv2
            have s1 := rng_below s1 qv2
            have ok2 : ∀ e ∈ zl rf2, e.ok v2 := fun e he => (ok2 e he).below hv_
            have mg2 : ∀ f ∈ rf2, f.mg v2 := fun f hf => (mg2 f hf).below hv_
            have HB := bel_step HB qv2
            clear F1 sz_ hsz hv_ hq_ h82
            have mg1 : ∀ f ∈ rf1, f.mg v2 := fun f hf => (mg1 f hf).below qv2
            go_wp2_with (first | refine wpList_load_mid (by rfl) _ _ (by rfl) (w.heap.size) 0 (by rfl) (cellsM (zl hs)) _ r0 hU32 row32 hiH.out ?_ | refine wpList_load_mid (by rfl) _ _ (by rfl) (w.heap.size + 1 + 1 + 1) 0 (by rfl) (cellsM (zl [cx, cy])) _ r3 hU28 row28 hic.out ?_ | fail)
            refine (HA3.out v2 HB).mono ?_
            rintro e x3 ⟨rf3, h23, rfl, hz3, ok3, mg3, hq_⟩
            have F1 := hFp.out x3 rf3 h23
            have h83 : (cellsM (zl rf3)).length = 8 := by rw [cellsM_len, zl_len, h23]
            go_upto_region 18 with fail
            refine enterR (P := fun u => Code.wp _ _ _ _ u) ?_
            intro v3 hv_ s3 sz_ hsz
            have qv3 := bel_step hq_ hv_
            have hi3 := hid (show (Try.prog.info? 28).map (·.size) = some (cellsM (zl rf3)).length by rw [h83]; exact T28i)
            have s1 := rng_below s1 qv3
            have s2 := rng_below s2 qv3
            have ok3 : ∀ e ∈ zl rf3, e.ok v3 := fun e he => (ok3 e he).below hv_
            have mg3 : ∀ f ∈ rf3, f.mg v3 := fun f hf => (mg3 f hf).below hv_
            have HB := bel_step HB qv3
            clear F1 sz_ hsz hv_ hq_ h83
            have mg1 : ∀ f ∈ rf1, f.mg v3 := fun f hf => (mg1 f hf).below qv3
            have mg2 : ∀ f ∈ rf2, f.mg v3 := fun f hf => (mg2 f hf).below qv3
            clear r0 r1 r2 r3 HA1 HA2 HA3
            by_cases hE1 : E1 = 0
            · by_cases hE2 : E2 = 0
              · by_cases hE3 : E3 = 0
                · subst hE1 hE2 hE3
                  obtain ⟨px, py, rfl⟩ := two_of h21
                  obtain ⟨qx, qy, rfl⟩ := two_of h22
                  obtain ⟨rx, ry, rfl⟩ := two_of h23
                  have hT := HLaw.out hS2.out hS8.out hfb.out _ _ _ hq1.out hq2.out hq3.out _ _ _ px py qx qy rx ry hz1 hz2 hz3 ok1 ok2 ok3
                  have HF2 := LFlat_g px py qx qy rx ry (w := v3) (mg1 _ (by simp)) (mg1 _ (by simp)) (mg2 _ (by simp)) (mg2 _ (by simp)) (mg3 _ (by simp)) (mg3 _ (by simp))
                  rw [hT] at HF2
                  have HF2 := hid HF2
                  clear HLaw hz1 hz2 hz3 ok1 ok2 ok3 mg1 mg2 mg3 hT h21 h22 h23
                  go_wp2_with (first | refine wpList_load_mid (by rfl) _ _ (by rfl) (x1.heap.size) 0 (by rfl) (cellsM (zl [px, py])) _ s1 hU28 row28 hi1.out ?_ | refine wpList_load_mid (by rfl) _ _ (by rfl) (x2.heap.size) 0 (by rfl) (cellsM (zl [qx, qy])) _ s2 hU28 row28 hi2.out ?_ | refine wpList_load_mid (by rfl) _ _ (by rfl) (x3.heap.size) 0 (by rfl) (cellsM (zl [rx, ry])) _ s3 hU28 row28 hi3.out ?_ | fail)
                  refine HF2.out.mono ?_
                  rintro e x4 ⟨rfl, hq_⟩
                  have HB := bel_step HB hq_
                  go_wp2_with fail
                  refine (HEx.out x4 HB).mono ?_
                  rintro e x_ ⟨rfl, hx_⟩
                  go_wp2
                  go_ret
                  exact ⟨by simp, bel_step HB hx_⟩
                · subst hE1 hE2
                  clear HLaw hz1 hz2 hz3 ok1 ok2 ok3 mg1 mg2 mg3 h21 h22 h23
                  go_wp2_with fail
                  refine (HEx.out v3 HB).mono ?_
                  rintro e x_ ⟨rfl, hx_⟩
                  go_wp2
                  go_ret
                  exact ⟨by simp, bel_step HB hx_⟩
              · subst hE1
                clear HLaw hz1 hz2 hz3 ok1 ok2 ok3 mg1 mg2 mg3 h21 h22 h23
                go_wp2_with fail
                refine (HEx.out v3 HB).mono ?_
                rintro e x_ ⟨rfl, hx_⟩
                go_wp2
                go_ret
                exact ⟨by simp, bel_step HB hx_⟩
            · clear HLaw hz1 hz2 hz3 ok1 ok2 ok3 mg1 mg2 mg3 h21 h22 h23
              go_wp2_with fail
              refine (HEx.out v3 HB).mono ?_
              rintro e x_ ⟨rfl, hx_⟩
              go_wp2
              go_ret
              exact ⟨by simp, bel_step HB hx_⟩
end Go.Proofs.Ytgnfobnkhjlbbaa
