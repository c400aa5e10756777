/- Sampling: the grid of a transformation. Conditions: none. -/
import Derived.Test.YtdkgbkbbbldliaaGreatZSE
import Derived.Test.YtdkgbkbbbldliaaGreatZXA
import Derived.Test.YtdkgbkbbbldliaaGreatZYI
set_option linter.unusedVariables false
set_option linter.unusedSimpArgs false
namespace Go.Proofs.YtdkgbkbbbldliaaGreat
open Go.RowKit Big
def iv (z : Int) : Value := .int .i64 z
def smI (z : Int) : Prop := -70368744177664 ≤ z ∧ z ≤ 70368744177664
structure GrV (w : World) (N : List Int) (A : Option Addr) (c : Nat) (B : Option Addr) (k d : Nat) : Prop where
 e : ∃ g l, A = some ⟨g, 0, none⟩ ∧ w.rangeAt g 0 (Kc l) ∧ l.map (·.z) = N ∧ ∀ x ∈ l, x.ok w
 c9 : 9 ≤ c ∧ c ≤ maxLen
 s : (B = none ∧ k = 0 ∧ d = 0) ∨ ∃ b, B = some ⟨b, 0, none⟩ ∧ k = 9 ∧ 9 ≤ d ∧ d ≤ maxLen ∧ w.rangeAt b 0 (N.map iv) ∧ ∀ z ∈ N, smI z
theorem GrV.below {w w' : World} {N : List Int} {A : Option Addr} {c : Nat} {B : Option Addr} {k d : Nat} (h : GrV w N A c B k d) (hb : Below w.heap.size w w') : GrV w' N A c B k d := by
 obtain ⟨g, l, h1, h2, h3, h4⟩ := h.e
 refine ⟨⟨g, l, h1, Ke h2 hb, h3, fun x hx => (h4 x hx).below hb⟩, h.c9, ?_⟩
 rcases h.s with s | ⟨b, s1, s2, s3, s4, s5, s6⟩
 ·exact .inl s
 ·exact .inr ⟨b, s1, s2, s3, s4, Ke s5 hb, s6⟩
def RetG (w : World) (N : List Int) (e : Ending) (w' : World) : Prop := ∃ A c B k d, e = .returned (.agg #[.slice A 9 c, .slice B k d]) ∧ GrV w' N A c B k d ∧ Below w.heap.size w w'
theorem infoI64 : (Tryz.prog.info? 3).map (fun i => (i.zero, i.size, i.bytes)) = some (some (.int .i64 0), 1, 8) := by kernel_rfl
theorem toI_in {z : Int} (h : smI z) : toI z = (z, 0) := by unfold toI; unfold smI at h; rw [if_pos ⟨by omega, by omega⟩]
theorem toI_out {z : Int} (h : ¬ smI z) : (toI z).2 = 13 ∨ ((toI z).2 = 0 ∧ (70368744177664 < (toI z).1 ∨ (toI z).1 < -70368744177664)) := by
 unfold toI
 unfold smI at h
 split
 ·right
  refine ⟨rfl, ?_⟩
  show 70368744177664 < z ∨ z < -70368744177664
  omega
 ·left; rfl
theorem Zx {w : World} {base s : Nat} {e : TypeId} {v : Value} {n : Nat} {xs : List Value} (h : w.ownsRow base e s v n xs) {g i : Nat} {u : Value} (hg : g < base) : (w.setCell ⟨g, i, none⟩ u).ownsRow base e s v n xs := by
 refine ⟨h.1, ?_⟩
 rcases h.2 with h2 | ⟨g', cap, cur, hv, hg', hh, r⟩
 ·exact .inl h2
 ·refine .inr ⟨g', cap, cur, hv, hg', ?_, r⟩
  exact (Below.heap_setCell w ⟨g, i, none⟩ u g' (by simp; omega)).trans hh
theorem GrV.set2 {w : World} {N : List Int} {A : Option Addr} {c : Nat} {B : Option Addr} {k d : Nat} (h : GrV w N A c B k d) {g : Nat} {u0 u1 v0 v1 : Value} (h0 : w.cell? ⟨g, 0, none⟩ = some u0) (h1 : w.cell? ⟨g, 1, none⟩ = some u1)
  (n0 : ∀ n, u0 ≠ .int .u32 n) (n1 : ∀ n, u1 ≠ .int .u32 n) (hA : ∀ p, A = some p → p.block ≠ g) (hB : ∀ p, B = some p → p.block ≠ g) : GrV ((w.setCell ⟨g, 0, none⟩ v0).setCell ⟨g, 1, none⟩ v1) N A c B k d := by
 obtain ⟨ga, l, e1, e2, e3, e4⟩ := h.e
 have hm : ∀ A' c' xs', Mg w A' c' xs' → Mg ((w.setCell ⟨g, 0, none⟩ v0).setCell ⟨g, 1, none⟩ v1) A' c' xs' := fun _ _ _ m => (m.set_ g 0 u0 v0 h0 n0).set_ g 1 u1 v1 ((K0 (by omega)).trans h1) n1
 have na := Ne.symm (hA _ e1)
 refine ⟨⟨ga, l, e1, Jh (Jh e2 na) na, e3, fun x hx => (e4 x hx).mv hm⟩, h.c9, ?_⟩
 rcases h.s with s | ⟨b, s1, s2, s3, s4, s5, s6⟩
 ·exact .inl s
 ·have nb := Ne.symm (hB _ s1)
  exact .inr ⟨b, s1, s2, s3, s4, Jh (Jh s5 nb) nb, s6⟩
set_option maxRecDepth 100000 in
set_option maxHeartbeats 8000000 in
theorem Z7 (fs : List Rf) (h9 : fs.length = 9) {w : World} (hm : ∀ f ∈ fs, f.mg w) (hv : nrmB fs = true) :
  Calls Tryz.prog 33 #[.agg (Kc (zl fs)).toArray] w (RetG w (nrmZ fs)) := by
 have hi := hid (show (Tryz.prog.info? 32).map (·.size) = some (Kc (zl fs)).length by rw [Kf, Ky, h9]; exact T32i)
 obtain ⟨hH, _, hred, h40⟩ := Hu h9 hm hv
 have hE : oneE id fs = (homZ (nrmZ fs), 0) := by
  unfold oneE
  rw [if_pos hv]
  show resZ (nrmZ fs) = _
  unfold resZ
  rw [hred, if_pos h40]
 have H1 := hid fun (W : World) (h : Below w.heap.size w W) => LNormal_h h9 (w := W) (fun f hf => (hm f hf).below h)
 rw [hE] at H1
 have hN := Jf h9
 have hvR : Hid (∀ (W : World) (rf : List Rf), (zl rf).map (·.z) = homZ (nrmZ fs) → (∀ e ∈ zl rf, e.ok W) → ∀ f ∈ rf, f.v = true) := fun W rf hz ho => by
  have := (homR (X := nrmZ fs) hN (by rw [hred]; exact h40) (by rw [hred]; exact hz) ho).2.c
  rw [Uf] at this
  exact (J8 this).1
 have hzf := hid fun z (hz : z ∈ nrmZ fs) => le40_fits h40 z hz
 generalize nrmZ fs = N at *
 clear hH hred h40 hE hm hv
 have hFl : ∀ (v : World) (rf : List Rf), rf.length = 9 → (storeCells ⟨v.heap.size, 0, none⟩ (Kc (zl rf))).run Tryz.prog (v.alloc (.cells (Kc Kj).toArray 32)) = .ok () (v.alloc (.cells (Kc (zl rf)).toArray 32)) := fun v rf h => Jw (P := Tryz.prog) (w := v) (l := zl rf) (zs := Kc Kj) 32 (by rw [Kf, Ky, h]; rfl) T32i
 simp only [Kj, List.replicate, Kc, ZE.cells, ZE.zero, List.cons_append, List.nil_append] at hFl
 have hFl := hid hFl
 obtain ⟨d32, hU32, row32⟩ := T32u
 go_enter Tryz.func33, Tryz.ntmps33
 go_upto_region 1 with fail
 refine Jc (P := fun u => Code.wp _ _ _ _ u) (c1 := [.slice none 0 0, .slice none 0 0]) ?_
 intro u HB r0 r1 zn0 zn1 hsz
 clear hsz zn0
 go_wp2_with (first | refine wpList_load_mid (by rfl) _ _ (by rfl) (w.heap.size) 0 (by rfl) (Kc (zl fs)) _ r0 hU32 row32 hi.out ?_ | fail)
 refine (H1.out u HB).mono ?_
 rintro e x1 ⟨rf1, h91, rfl, hz1, ok1, mg1, hq_⟩
 have F1 := hFl.out x1 rf1 h91
 have h361 : (Kc (zl rf1)).length = 36 := by rw [Kf, Ky, h91]
 go_upto_region 2 with fail
 refine Kw (P := fun u => Code.wp _ _ _ _ u) ?_
 intro v1 hv_ s1 sz_ hsz
 have qv1 := Kb hq_ hv_
 have lx1 : x1.heap.size < v1.heap.size := sz_.lt
 have hi1 := hid (show (Tryz.prog.info? 32).map (·.size) = some (Kc (zl rf1)).length by rw [h361]; exact T32i)
 have r1 := Ke r1 qv1
 have ok1 : ∀ e ∈ zl rf1, e.ok v1 := fun e he => (ok1 e he).below hv_
 have mg1 : ∀ f ∈ rf1, f.mg v1 := fun f hf => (mg1 f hf).below hv_
 have HB := Kb HB qv1
 clear F1 sz_ hsz hv_ hq_ h361
 have zn1 := zn1.below qv1
 have hvv := zn1.lt
 have HFl := hid (Sfloors_g rf1 N h91 hN hz1 (hvR.out v1 rf1 hz1 ok1) mg1 s1)
 clear hz1 ok1 H1 hvR r0
 go_wp2_with fail
 refine HFl.out.mono ?_
 rintro e w4 ⟨vE, l, rfl, hownE, hlz, hlo, h4⟩
 have hl9 : l.length = 9 := by rw [← List.length_map (·.z), hlz, hN]
 obtain ⟨g0, cE, rfl, hg0, hrE, hc1, hc2⟩ := hownE.rng (by omega)
 rw [hl9] at hc1 ⊢
 have hE0 := hid fun (W : World) (h : Below w4.heap.size w4 W) => And.intro (Ke hrE h) (fun e (he : e ∈ l) => (hlo e he).below h)
 have hgl : g0 < w4.heap.size := Kd (Jn hrE (show 0 < l.length by omega)).1
 have HB := Kb HB h4
 have r1 := Ke r1 h4
 have zn1 := zn1.below h4
 have HR1 := hid fun (W : World) (h : Below w4.heap.size w4 W) => And.intro (Ke r1 h) (And.intro (zn1.below h) (Kb HB h))
 have hv1 := zn1.lt
 have hlz := hid hlz
 have hcE := hid (And.intro hc1 hc2)
 have hg1 : w.heap.size + 1 < g0 := Nat.lt_of_lt_of_le hvv hg0
 clear hownE hlo hrE hc1 hc2 HFl s1 ok1 mg1
 go_upto_region 3 with fail
 refine Qh (P := fun u => Code.wp _ _ _ _ u) ?_
 intro w5 h5 q0 q1 zq hsz
 have zq0 := zq
 clear hsz r1 zn1 HB hv1 hvv qv1
 have hnil := World.ownsRow_nil w5 (w4.heap.size + 1) 3 1
 go_wp2
 go_loopw [22] (fun s22 wr => ∃ (j : Nat) (B : Option Addr) (d : Nat), j ≤ 9 ∧ s22 = .int .i64 j ∧ Below w4.heap.size w4 wr ∧ wr.cell? ⟨w4.heap.size, 0, none⟩ = some (.slice (some ⟨g0, 0, none⟩) 9 cE) ∧ wr.cell? ⟨w4.heap.size, 1, none⟩ = some (.slice B j d) ∧ Zn wr w4.heap.size ∧ wr.ownsRow (w4.heap.size + 1) 3 1 (.slice B j d) (N.take j).length ((N.take j).map iv) ∧ Hid (∀ z ∈ N.take j, smI z)) (fun s22 _ => 9 - (intOf s22).toNat)
 case atStart => exact ⟨0, none, 0, by omega, rfl, h5, q0, q1, zq0, by simpa using hnil, fun z hz => by simp at hz⟩
 case round =>
  obtain ⟨j, B, d, hj, rfl, hbl, c0, c1, zb, hown, hsm⟩ := hrel
  clear h5 q0 q1 zq0 zq hnil
  obtain ⟨hrE, hlo⟩ := hE0.out wr hbl
  obtain ⟨r1, zn1, HB⟩ := HR1.out wr hbl
  by_cases h9j : j < 9
  ·have hjl : j < l.length := by omega
   have hjN : j < N.length := by omega
   have hji : (j : Int) < 9 := by omega
   obtain ⟨t0, t1⟩ := Jn hrE hjl
   have hok := hlo _ (List.getElem_mem hjl)
   have hz : l[j].z = N[j] := by
    have := hlz.out
    subst this
    simp
   have hfz := hzf.out N[j] (List.getElem_mem hjN)
   obtain ⟨kz, ke, hke⟩ : ∃ a b, toI N[j] = (a, b) := ⟨_, _, rfl⟩
   have HT := hid fun (W : World) (h : Below wr.heap.size wr W) => ToInt_g (w := W) (hz ▸ hok.i) (hok.m.below h) hfz kz hke
   have hin : Hid (smI N[j] → kz = N[j] ∧ ke = 0 ∧ ∀ z ∈ N.take (j + 1), smI z) := fun h => by
    rw [toI_in h, Prod.mk.injEq] at hke
    refine ⟨hke.1.symm, hke.2.symm, fun z hz => ?_⟩
    rw [List.take_succ_eq_append_getElem hjN] at hz
    rcases List.mem_append.1 hz with h1 | h1
    ·exact hsm.out z h1
    ·rw [List.mem_singleton] at h1; rw [h1]; exact h
   have hout : Hid (¬ smI N[j] → ke = 13 ∨ (ke = 0 ∧ (70368744177664 < kz ∨ kz < -70368744177664))) := fun h => by
    have := toI_out h
    rw [hke] at this
    exact this
   have hst := hid (List.take_succ_eq_append_getElem hjN)
   have hHO := hid hown
   have hsz := hbl.size
   have lt0 := Kd t0
   clear hok hz hfz hke hrE hlo hsm hown
   generalize l[j] = e at *
   generalize N[j] = z at *
   obtain ⟨ez, eb, en, ex, eA, ec⟩ := e
   dsimp only at *
   have K := hid (And.intro c0 (And.intro c1 zb))
   go_upto_region 6 with fail
   refine Qh (P := fun u => Code.wp _ _ _ _ u) ?_
   intro y1 hy1 k0 k1 zk hszk
   clear zk hszk t0 t1 c0 c1 zb
   go_wp2_with fail
   refine (HT.out y1 hy1).mono ?_
   rintro e y2 ⟨rfl, hq⟩
   have hy2 := Kb hy1 hq
   clear k0 k1 hy1 hq HT
   obtain ⟨c0, c1, zb⟩ := K.out
   have c0 := Ka hy2 c0
   have c1 := Ka hy2 c1
   have zb := zb.below hy2
   have fb := zb.fr
   have ltb := Kd c0
   by_cases hs : smI z
   ·obtain ⟨rfl, rfl, hsm⟩ := hin.out hs
    have hsm := hid hsm
    unfold smI at hs
    obtain ⟨hs1, hs2⟩ := hs
    have hs1' : ¬ kz < -70368744177664 := by omega
    have hs2' : ¬ 70368744177664 < kz := by omega
    have hownx := K2 hHO.out hy2
    have hal := fun (O : Obj) => (Below.refl y2.heap.size y2).alloc (Nat.le_refl _) O
    have hsy := hy2.size
    have hst5 : (N.take j ++ [kz]).length = j + 1 := by rw [← hst.out, List.length_take]; omega
    have hst6 : (N.take (j + 1)).length = j + 1 := by rw [hst.out]; exact hst5
    clear hin hout
    go_wp2_with (at_builtin; refine Je rfl (.tmp 43) (.tmp 45) 68 rfl 3 (.int .i64 0) 8 Tryz.underlying68 infoI64 rfl (w4.heap.size + 1) iv (fun _ => rfl) _ (N.take j) rfl (K2 hownx (hal _)) _ 1 [kz] rfl (Za iv _ kz 3) (by simp; omega) (by simp; omega) (by simp; omega) ?_; intro v5 w6 hown6 hgr hwh; obtain ⟨A5, c5, rfl, _, _, _⟩ := Ut hown6; rw [hst5] at hown6 ⊢; have hb7 : Below (w4.heap.size + 1) y2 w6 := ((Below.refl _ _).alloc (by omega) _).trans (J3 (K2 hownx (hal _)) hgr (by simp; omega)); have d0 : w6.cell? ⟨w4.heap.size, 0, none⟩ = some (.slice (some ⟨g0, 0, none⟩) 9 cE) := (hb7.cell (p := ⟨w4.heap.size, 0, none⟩) (by dsimp only; omega)).trans c0; have d1 : w6.cell? ⟨w4.heap.size, 1, none⟩ = some (.slice B j d) := (hb7.cell (p := ⟨w4.heap.size, 1, none⟩) (by dsimp only; omega)).trans c1; have zd : Zn w6 w4.heap.size := ⟨Kd d0, fun i => (hb7.frozen (p := ⟨w4.heap.size, i, none⟩) (by dsimp only; omega)).trans (zb.fr i)⟩; have fd := zd.fr; have ltd := Kd d0)
    have hbn := hid (Kg ((Kb hbl hy2).trans (hb7.mono (Nat.le_succ _))) (Nat.le_refl _) 1 (.slice A5 (j + 1) c5))
    have hon := Zx (i := 1) (u := .slice A5 (j + 1) c5) hown6 (Nat.lt_succ_self w4.heap.size)
    rw [← hst.out] at hon
    have hcn := hid (And.intro ((K0 (w := w6) (g := w4.heap.size) (i := 1) (j := 0) (u := .slice A5 (j + 1) c5) (by decide)).trans d0) (And.intro (Q6 (u := .slice A5 (j + 1) c5) d1) (And.intro (zd.set_ (k := w4.heap.size) (i := 1) (v := .slice A5 (j + 1) c5)) hon)))
    clear hgr hwh hb7 d0 d1 zd fd hon hown6 c0 c1 zb fb hownx hal
    go_wp2
    go_roundw
    case rel => exact ⟨j + 1, A5, c5, by omega, by go_num, hbn.out, hcn.out.1, hcn.out.2.1, hcn.out.2.2.1, by rw [hst6]; exact hcn.out.2.2.2, hsm.out⟩
    case measure => simp [intOf]; omega
   ·have hbU := Kg (Kb hbl hy2) (Nat.le_refl _) 1 (.slice none 0 0)
    have e0 := (K0 (w := y2) (g := w4.heap.size) (i := 1) (j := 0) (u := .slice none 0 0) (by decide)).trans c0
    have e1 := Q6 (u := .slice none 0 0) c1
    have hzb := hid (And.intro hbU (And.intro e0 e1))
    have ho := hout.out hs
    clear hbU e0 e1 hin hout hHO hst r1 zn1 HB hbl hy2 hs K
    rcases ho with rfl | ⟨rfl, ho⟩
    ·go_upto_region 11 with fail
     obtain ⟨hbU, e0, e1⟩ := hzb.out
     generalize y2.setCell ⟨w4.heap.size, 1, none⟩ (.slice none 0 0) = U at *
     obtain ⟨hrE, hlo⟩ := hE0.out U hbU
     obtain ⟨r1, zn1, HB⟩ := HR1.out U hbU
     have hGr : GrV U N (some ⟨g0, 0, none⟩) cE none 0 0 := ⟨⟨g0, l, rfl, hrE, hlz.out, hlo⟩, hcE.out, .inl ⟨rfl, rfl, rfl⟩⟩
     have lt0 := Kd e0
     clear hrE hlo hbU hE0 HR1 hlz c0 c1 zb
     have k0 : (U).cell? ⟨w.heap.size + 1, 0, none⟩ = some (.slice none 0 0) := r1 0 _ rfl
     have k1 : (U).cell? ⟨w.heap.size + 1, 1, none⟩ = some (.slice none 0 0) := r1 1 _ rfl
     have ltk := Kd k0
     have fk := zn1.fr
     have HG := hid (hGr.set2 (v0 := .slice (some ⟨g0, 0, none⟩) 9 cE) (v1 := .slice none 0 0) k0 k1 (by simp) (by simp) (by intro p hp; obtain rfl := Option.some.inj hp; dsimp only; omega) (by intro p hp; cases hp))
     have HBf := hid (Kg (Kg HB (show w.heap.size ≤ w.heap.size + 1 by omega) 0 (.slice (some ⟨g0, 0, none⟩) 9 cE)) (show w.heap.size ≤ w.heap.size + 1 by omega) 1 (.slice none 0 0))
     clear hGr r1 zn1 HB
     go_wp2
     refine bodyPost_ret (v := .agg #[.slice (some ⟨g0, 0, none⟩) 9 cE, .slice none 0 0]) ?_ rfl ?_
     ·simp [results, Tryz.results33, go_sem, k0, k1]
     ·exact ⟨_, _, _, _, _, rfl, HG.out, HBf.out⟩
    ·by_cases ho1 : 70368744177664 < kz
     ·clear ho
      go_upto_region 11 with fail
      obtain ⟨hbU, e0, e1⟩ := hzb.out
      generalize y2.setCell ⟨w4.heap.size, 1, none⟩ (.slice none 0 0) = U at *
      obtain ⟨hrE, hlo⟩ := hE0.out U hbU
      obtain ⟨r1, zn1, HB⟩ := HR1.out U hbU
      have hGr : GrV U N (some ⟨g0, 0, none⟩) cE none 0 0 := ⟨⟨g0, l, rfl, hrE, hlz.out, hlo⟩, hcE.out, .inl ⟨rfl, rfl, rfl⟩⟩
      have lt0 := Kd e0
      clear hrE hlo hbU hE0 HR1 hlz c0 c1 zb
      have k0 : (U).cell? ⟨w.heap.size + 1, 0, none⟩ = some (.slice none 0 0) := r1 0 _ rfl
      have k1 : (U).cell? ⟨w.heap.size + 1, 1, none⟩ = some (.slice none 0 0) := r1 1 _ rfl
      have ltk := Kd k0
      have fk := zn1.fr
      have HG := hid (hGr.set2 (v0 := .slice (some ⟨g0, 0, none⟩) 9 cE) (v1 := .slice none 0 0) k0 k1 (by simp) (by simp) (by intro p hp; obtain rfl := Option.some.inj hp; dsimp only; omega) (by intro p hp; cases hp))
      have HBf := hid (Kg (Kg HB (show w.heap.size ≤ w.heap.size + 1 by omega) 0 (.slice (some ⟨g0, 0, none⟩) 9 cE)) (show w.heap.size ≤ w.heap.size + 1 by omega) 1 (.slice none 0 0))
      clear hGr r1 zn1 HB
      go_wp2
      refine bodyPost_ret (v := .agg #[.slice (some ⟨g0, 0, none⟩) 9 cE, .slice none 0 0]) ?_ rfl ?_
      ·simp [results, Tryz.results33, go_sem, k0, k1]
      ·exact ⟨_, _, _, _, _, rfl, HG.out, HBf.out⟩
     ·have ho2 : kz < -70368744177664 := by omega
      clear ho
      go_upto_region 11 with fail
      obtain ⟨hbU, e0, e1⟩ := hzb.out
      generalize y2.setCell ⟨w4.heap.size, 1, none⟩ (.slice none 0 0) = U at *
      obtain ⟨hrE, hlo⟩ := hE0.out U hbU
      obtain ⟨r1, zn1, HB⟩ := HR1.out U hbU
      have hGr : GrV U N (some ⟨g0, 0, none⟩) cE none 0 0 := ⟨⟨g0, l, rfl, hrE, hlz.out, hlo⟩, hcE.out, .inl ⟨rfl, rfl, rfl⟩⟩
      have lt0 := Kd e0
      clear hrE hlo hbU hE0 HR1 hlz c0 c1 zb
      have k0 : (U).cell? ⟨w.heap.size + 1, 0, none⟩ = some (.slice none 0 0) := r1 0 _ rfl
      have k1 : (U).cell? ⟨w.heap.size + 1, 1, none⟩ = some (.slice none 0 0) := r1 1 _ rfl
      have ltk := Kd k0
      have fk := zn1.fr
      have HG := hid (hGr.set2 (v0 := .slice (some ⟨g0, 0, none⟩) 9 cE) (v1 := .slice none 0 0) k0 k1 (by simp) (by simp) (by intro p hp; obtain rfl := Option.some.inj hp; dsimp only; omega) (by intro p hp; cases hp))
      have HBf := hid (Kg (Kg HB (show w.heap.size ≤ w.heap.size + 1 by omega) 0 (.slice (some ⟨g0, 0, none⟩) 9 cE)) (show w.heap.size ≤ w.heap.size + 1 by omega) 1 (.slice none 0 0))
      clear hGr r1 zn1 HB
      go_wp2
      refine bodyPost_ret (v := .agg #[.slice (some ⟨g0, 0, none⟩) 9 cE, .slice none 0 0]) ?_ rfl ?_
      ·simp [results, Tryz.results33, go_sem, k0, k1]
      ·exact ⟨_, _, _, _, _, rfl, HG.out, HBf.out⟩
  ·obtain rfl : j = 9 := by omega
   rw [List.take_of_length_le (by omega), hN] at hown
   rw [List.take_of_length_le (by omega)] at hsm
   obtain ⟨b, cap, hvv, hgb, hrr, hc9, hcm⟩ := Y6 hown (by omega)
   simp only [Value.slice.injEq, true_and] at hvv
   obtain ⟨rfl, rfl⟩ := hvv
   have hGr : GrV wr N (some ⟨g0, 0, none⟩) cE (some ⟨b, 0, none⟩) 9 d := ⟨⟨g0, l, rfl, hrE, hlz.out, hlo⟩, hcE.out, .inr ⟨b, rfl, rfl, hc9, hcm, hrr, hsm.out⟩⟩
   have lt0 := Kd c0
   clear hrE hlo hown hsm hrr hbl zb hE0 HR1 hlz
   go_upto_region 11 with fail
   have k0 : (wr).cell? ⟨w.heap.size + 1, 0, none⟩ = some (.slice none 0 0) := r1 0 _ rfl
   have k1 : (wr).cell? ⟨w.heap.size + 1, 1, none⟩ = some (.slice none 0 0) := r1 1 _ rfl
   have ltk := Kd k0
   have fk := zn1.fr
   have HG := hid (hGr.set2 (v0 := .slice (some ⟨g0, 0, none⟩) 9 cE) (v1 := .slice (some ⟨b, 0, none⟩) 9 d) k0 k1 (by simp) (by simp) (by intro p hp; obtain rfl := Option.some.inj hp; dsimp only; omega) (by intro p hp; obtain rfl := Option.some.inj hp; dsimp only; omega))
   have HBf := hid (Kg (Kg HB (show w.heap.size ≤ w.heap.size + 1 by omega) 0 (.slice (some ⟨g0, 0, none⟩) 9 cE)) (show w.heap.size ≤ w.heap.size + 1 by omega) 1 (.slice (some ⟨b, 0, none⟩) 9 d))
   clear hGr r1 zn1 HB
   go_wp2
   refine bodyPost_ret (v := .agg #[.slice (some ⟨g0, 0, none⟩) 9 cE, .slice (some ⟨b, 0, none⟩) 9 d]) ?_ rfl ?_
   ·simp [results, Tryz.results33, go_sem, k0, k1]
   ·exact ⟨_, _, _, _, _, rfl, HG.out, HBf.out⟩
structure FilV (w : World) (g : Nat) (vs : List Value) (wr : World) : Prop where
 b : Below w.heap.size w wr
 z : Zn wr g
 hg : w.heap.size ≤ g
 r : wr.rangeAt g 0 vs
theorem FilV.below {w wr w1 : World} {g : Nat} {vs : List Value} (h : FilV w g vs wr) (hb : Below wr.heap.size wr w1) : FilV w g vs w1 := ⟨Kb h.b hb, h.z.below hb, h.hg, Ke h.r hb⟩
theorem FilV.cell {w wr : World} {g : Nat} {vs : List Value} (h : FilV w g vs wr) {j : Nat} (hj : j < vs.length) : wr.cell? ⟨g, j, none⟩ = some vs[j] := by
 have := h.r j vs[j] (List.getElem?_eq_getElem hj)
 rwa [Nat.zero_add] at this
theorem FilV.set {w wr : World} {g : Nat} {vs : List Value} (h : FilV w g vs wr) {j : Nat} (hj : j < vs.length) (t : Value) : FilV w g (vs.set j t) (wr.setCell ⟨g, j, none⟩ t) := by
 refine ⟨Kg h.b h.hg _ _, h.z.set_, h.hg, fun i v hv => ?_⟩
 rw [Nat.zero_add]
 rw [List.getElem?_set] at hv
 have hc := h.cell hj
 by_cases hi : j = i
 ·subst hi
  rw [if_pos rfl, if_pos hj] at hv
  obtain rfl := Option.some.inj hv
  exact Q6 hc
 ·rw [if_neg hi] at hv
  have := h.r i v hv
  rw [Nat.zero_add] at this
  exact (K0 hi).trans this
def posP (N : List Int) (x y : Int) : Int × Int × Bool := match posZ N x y with
 | none => (0, 0, false)
 | some q => (clP q.1, clP q.2, true)
def posR (N : List Int) (x y : Int) : Int × Int × Bool := match posZ N x y with
 | none => (0, 0, false)
 | some q => (clR q.1, clR q.2, true)
def RetPB (w : World) (q : Int × Int × Bool) (e : Ending) (w' : World) : Prop := e = .returned (.tuple #[.agg #[.int .i64 q.1, .int .i64 q.2.1], .bool q.2.2]) ∧ Below w.heap.size w w'
def RetQB (w : World) (q : Int × Int × Bool) (e : Ending) (w' : World) : Prop := e = .returned (.tuple #[.int .i64 q.1, .int .i64 q.2.1, .bool q.2.2]) ∧ Below w.heap.size w w'
theorem posP_none {N : List Int} {x y : Int} (h : rwZ N 2 (2 * x + 1) (2 * y + 1) = 0) : posP N x y = (0, 0, false) := by unfold posP posZ; rw [if_pos h]
theorem posR_none {N : List Int} {x y : Int} (h : rwZ N 2 (2 * x + 1) (2 * y + 1) = 0) : posR N x y = (0, 0, false) := by unfold posR posZ; rw [if_pos h]
theorem posP_some {N : List Int} {x y a b c : Int} (ha : rwZ N 0 (2 * x + 1) (2 * y + 1) = a) (hb : rwZ N 1 (2 * x + 1) (2 * y + 1) = b) (hc : rwZ N 2 (2 * x + 1) (2 * y + 1) = c) (h : c ≠ 0) : posP N x y = (clP (Int.fdiv a c), clP (Int.fdiv b c), true) := by unfold posP posZ; rw [if_neg (by rw [hc]; exact h), ha, hb, hc]
theorem posR_some {N : List Int} {x y a b c : Int} (ha : rwZ N 0 (2 * x + 1) (2 * y + 1) = a) (hb : rwZ N 1 (2 * x + 1) (2 * y + 1) = b) (hc : rwZ N 2 (2 * x + 1) (2 * y + 1) = c) (h : c ≠ 0) : posR N x y = (clR (Int.fdiv a c), clR (Int.fdiv b c), true) := by unfold posR posZ; rw [if_neg (by rw [hc]; exact h), ha, hb, hc]
theorem clP_small {a b : Int} (hb : b ≠ 0) (ha : a.natAbs ≤ 4611686018427387904) : clP (Int.fdiv a b) = Int.fdiv a b := by
 have := Gr a b hb
 unfold clP
 rw [if_pos (by omega)]
theorem mul_in {a x : Int} (ha : smI a) (hx : 0 ≤ x ∧ x ≤ 8193) : -576531121047601152 ≤ a * x ∧ a * x ≤ 576531121047601152 := by
 obtain ⟨h1, h2⟩ := ha
 have h3 : a * x ≤ 70368744177664 * x := Int.mul_le_mul_of_nonneg_right h2 hx.1
 have h4 : -70368744177664 * x ≤ a * x := Int.mul_le_mul_of_nonneg_right h1 hx.1
 omega
theorem rwZ_at {N : List Int} {i : Nat} (h : 3 * i + 2 < N.length) (x y : Int) : rwZ N i x y = N[3 * i] * x + N[3 * i + 1] * y + 2 * N[3 * i + 2] := by
 unfold rwZ
 simp only [List.getD_eq_getElem?_getD]
 rw [List.getElem?_eq_getElem (by omega), List.getElem?_eq_getElem (by omega), List.getElem?_eq_getElem (by omega)]
 rfl
end Go.Proofs.YtdkgbkbbbldliaaGreat
