/- Sampling, the reference: Warp. Conditions: none. -/
import Derived.Test.YtdkgbkbbbldliaaGreatZSH
import Derived.Test.YtdkgbkbbbldliaaGreatZXI
set_option linter.unusedVariables false
set_option linter.unusedSimpArgs false
namespace Go.Proofs.YtdkgbkbbbldliaaGreat
open Go.RowKit Big
set_option maxRecDepth 100000 in
set_option maxHeartbeats 8000000 in
theorem S4Warp_g {m : Bm} {A : Option Addr} {c : Nat} (fs : List Rf) (h9 : fs.length = 9) {w : World} (hb : Mb w A c m.d) (hm : ∀ f ∈ fs, f.mg w) (cols rows : Int) :
  Calls Tryz.prog 17 #[.agg #[.int .i64 m.w, .int .i64 m.h, .slice A m.d.length c], .agg (Kc (zl fs)).toArray, .int .i64 cols, .int .i64 rows] w (D7 w (wrpE m (nrmB fs) (oneE adjZ fs).2 (bakZ fs) cols rows)) := by
 have hi := hid (show (Tryz.prog.info? 32).map (·.size) = some (Kc (zl fs)).length by rw [Kf, Ky, h9]; exact T32i)
 obtain ⟨P, hP⟩ : ∃ P, wrpE m (nrmB fs) (oneE adjZ fs).2 (bakZ fs) cols rows = P := ⟨_, rfl⟩
 have hQ : Hid (wrpE m (nrmB fs) (oneE adjZ fs).2 (bakZ fs) cols rows = P) := hP
 rw [hP]
 clear hP
 have HCk := hid fun (W : World) => U6 m A c W
 have HVa := hid fun (W : World) (h : Below w.heap.size w W) => Wp fs h9 (w := W) (fun f hf => (hm f hf).below h)
 have HPo := hid fun (W : World) => Yy cols rows W
 have HIv := hid fun (W : World) (h : Below w.heap.size w W) => Us h9 (w := W) (fun f hf => (hm f hf).below h)
 have HDk := hid fun (hm : bmB m = true) (W : World) (h : Below w.heap.size w W) => S1At_g hm (hb.below h)
 have hIR := hid fun (hv : nrmB fs = true) (h0 : (oneE adjZ fs).2 = 0) (rf : List Rf) (W : World) (hz : (zl rf).map (·.z) = (oneE adjZ fs).1) (ho : ∀ e ∈ zl rf, e.ok W) => And.intro (inv_hom (w := W) h9 hv h0 hz) (And.intro (inv_rf (w := W) h9 hv h0 hz ho) fun h => Xy (fs := rf) h)
 have hIE := hid (Ho (fs := fs))
 unfold ckE at HCk
 have hmc := hb.cap
 have hmx := hb.max
 obtain ⟨⟨qz, qe⟩, hq1⟩ : ∃ q, oneE adjZ fs = q := ⟨_, rfl⟩
 rw [hq1] at HIv hIR hIE hQ
 clear hm hb h9 hq1
 have hFl : ∀ (v : World) (rf : List Rf), rf.length = 9 → (storeCells ⟨v.heap.size, 0, none⟩ (Kc (zl rf))).run Tryz.prog (v.alloc (.cells (Kc Kj).toArray 32)) = .ok () (v.alloc (.cells (Kc (zl rf)).toArray 32)) := fun v rf h => Jw (P := Tryz.prog) (w := v) (l := zl rf) (zs := Kc Kj) 32 (by rw [Kf, Ky, h]; rfl) T32i
 simp only [Kj, List.replicate, Kc, ZE.cells, ZE.zero, List.cons_append, List.nil_append] at hFl
 have hFl := hid hFl
 obtain ⟨d32, hU32, row32⟩ := T32u
 go_enter Tryz.func17, Tryz.ntmps17
 go_upto_region 1 with fail
 refine X5 (P := fun u => Code.wp _ _ _ _ u) (c0 := [.int .i64 m.w, .int .i64 m.h, .slice A m.d.length c]) (c2 := [.int .i64 0, .int .i64 0, .slice none 0 0]) ?_
 intro u HB r0 r1 r2 zn0 zn1 zn2 hsz
 clear hsz zn0 zn1
 have r2 : u.rangeAt (w.heap.size + 1 + 1) 0 [.int .i64 0, .int .i64 0, .slice none 0 0] := r2
 have c0 : (u).cell? ⟨w.heap.size, 0, none⟩ = some (.int .i64 m.w) := r0 0 _ rfl
 have c1 : (u).cell? ⟨w.heap.size, 1, none⟩ = some (.int .i64 m.h) := r0 1 _ rfl
 have c2 : (u).cell? ⟨w.heap.size, 2, none⟩ = some (.slice A m.d.length c) := r0 2 _ rfl
 go_wp2_with fail
 refine (HCk.out u).mono ?_
 rintro e v ⟨rfl, hv⟩
 have r1 := Ke r1 hv
 have r2 := Ke r2 hv
 have zn2 := zn2.below hv
 have HB := Kb HB hv
 have c0 := Ka hv c0
 have c1 := Ka hv c1
 have c2 := Ka hv c2
 clear HCk hv r0
 cases hbm : bmB m
 ·have HR : Hid (P = (noB, 1)) := by unfold Hid; rw [← hQ.out]; unfold wrpE; rw [hbm]; rfl
  clear hQ HVa HPo HIv HDk hIR hIE
  simp only [Bool.false_eq_true, if_false]
  have k0 : (v).cell? ⟨w.heap.size + 1 + 1, 0, none⟩ = some (.int .i64 0) := r2 0 _ rfl
  have k1 : (v).cell? ⟨w.heap.size + 1 + 1, 1, none⟩ = some (.int .i64 0) := r2 1 _ rfl
  have k2 : (v).cell? ⟨w.heap.size + 1 + 1, 2, none⟩ = some (.slice none 0 0) := r2 2 _ rfl
  have ltk := Kd k0
  have fk := zn2.fr
  have HBf := hid (Kg (Kg (Kg HB (show w.heap.size ≤ w.heap.size + 1 + 1 by omega) 0 (.int .i64 0)) (show w.heap.size ≤ w.heap.size + 1 + 1 by omega) 1 (.int .i64 0)) (show w.heap.size ≤ w.heap.size + 1 + 1 by omega) 2 (.slice none 0 0))
  clear r2 zn2 HB
  go_wp2
  refine bodyPost_ret (v := .tuple #[.agg #[.int .i64 0, .int .i64 0, .slice none 0 0], .int .i64 (1)]) ?_ rfl ?_
  ·simp [results, Tryz.results17, go_sem, k0, k1, k2]
  ·rw [HR.out]
   exact ⟨none, 0, rfl, Mb.nil _, HBf.out⟩
 ·simp only [if_true]
  go_wp2_with (first | refine Jg (by rfl) _ _ (by rfl) (w.heap.size + 1) 0 (by rfl) (Kc (zl fs)) _ r1 hU32 row32 hi.out ?_ | fail)
  refine (HVa.out v HB).mono ?_
  rintro e v1 ⟨rfl, hv1⟩
  have r1 := Ke r1 hv1
  have r2 := Ke r2 hv1
  have zn2 := zn2.below hv1
  have HB := Kb HB hv1
  have c0 := Ka hv1 c0
  have c1 := Ka hv1 c1
  have c2 := Ka hv1 c2
  clear HVa hv1
  cases hva : nrmB fs
  ·have HR : Hid (P = (noB, 1)) := by unfold Hid; rw [← hQ.out]; unfold wrpE; rw [hva, Bool.and_false]; rfl
   clear hQ HPo HIv HDk hIR hIE
   have k0 : (v1).cell? ⟨w.heap.size + 1 + 1, 0, none⟩ = some (.int .i64 0) := r2 0 _ rfl
   have k1 : (v1).cell? ⟨w.heap.size + 1 + 1, 1, none⟩ = some (.int .i64 0) := r2 1 _ rfl
   have k2 : (v1).cell? ⟨w.heap.size + 1 + 1, 2, none⟩ = some (.slice none 0 0) := r2 2 _ rfl
   have ltk := Kd k0
   have fk := zn2.fr
   have HBf := hid (Kg (Kg (Kg HB (show w.heap.size ≤ w.heap.size + 1 + 1 by omega) 0 (.int .i64 0)) (show w.heap.size ≤ w.heap.size + 1 + 1 by omega) 1 (.int .i64 0)) (show w.heap.size ≤ w.heap.size + 1 + 1 by omega) 2 (.slice none 0 0))
   clear r2 zn2 HB
   go_wp2
   refine bodyPost_ret (v := .tuple #[.agg #[.int .i64 0, .int .i64 0, .slice none 0 0], .int .i64 (1)]) ?_ rfl ?_
   ·simp [results, Tryz.results17, go_sem, k0, k1, k2]
   ·rw [HR.out]
    exact ⟨none, 0, rfl, Mb.nil _, HBf.out⟩
  ·go_wp2_with fail
   refine (HPo.out v1).mono ?_
   rintro e v2 ⟨rfl, hv2⟩
   have r1 := Ke r1 hv2
   have r2 := Ke r2 hv2
   have zn2 := zn2.below hv2
   have HB := Kb HB hv2
   have c0 := Ka hv2 c0
   have c1 := Ka hv2 c1
   have c2 := Ka hv2 c2
   clear HPo hv2
   cases hs : J9 cols rows
   ·have HR : Hid (P = (noB, 23)) := by unfold Hid; rw [← hQ.out]; unfold wrpE; rw [hbm, hva, hs]; rfl
    clear hQ HIv HDk hIR hIE
    simp only [Bool.false_eq_true, if_false]
    have k0 : (v2).cell? ⟨w.heap.size + 1 + 1, 0, none⟩ = some (.int .i64 0) := r2 0 _ rfl
    have k1 : (v2).cell? ⟨w.heap.size + 1 + 1, 1, none⟩ = some (.int .i64 0) := r2 1 _ rfl
    have k2 : (v2).cell? ⟨w.heap.size + 1 + 1, 2, none⟩ = some (.slice none 0 0) := r2 2 _ rfl
    have ltk := Kd k0
    have fk := zn2.fr
    have HBf := hid (Kg (Kg (Kg HB (show w.heap.size ≤ w.heap.size + 1 + 1 by omega) 0 (.int .i64 0)) (show w.heap.size ≤ w.heap.size + 1 + 1 by omega) 1 (.int .i64 0)) (show w.heap.size ≤ w.heap.size + 1 + 1 by omega) 2 (.slice none 0 0))
    clear r2 zn2 HB
    go_wp2
    refine bodyPost_ret (v := .tuple #[.agg #[.int .i64 0, .int .i64 0, .slice none 0 0], .int .i64 (23)]) ?_ rfl ?_
    ·simp [results, Tryz.results17, go_sem, k0, k1, k2]
    ·rw [HR.out]
     exact ⟨none, 0, rfl, Mb.nil _, HBf.out⟩
   ·simp only [if_true]
    go_wp2_with (first | refine wpList_load_mid (by rfl) _ _ (by rfl) (w.heap.size + 1) 0 (by rfl) (Kc (zl fs)) _ r1 hU32 row32 hi.out ?_ | fail)
    refine (HIv.out v2 HB).mono ?_
    rintro e x1 ⟨rf1, h91, rfl, hz1, ok1, mg1, hq_⟩
    have F1 := hFl.out x1 rf1 h91
    have h361 : (Kc (zl rf1)).length = 36 := by rw [Kf, Ky, h91]
    go_upto_region 7 with fail
    refine Kw (P := fun u => Code.wp _ _ _ _ u) ?_
    intro v3 hv_ s1 sz_ hsz
    have qv3 := Kb hq_ hv_
    have lx1 : x1.heap.size < v3.heap.size := sz_.lt
    have hi1 := hid (show (Tryz.prog.info? 32).map (·.size) = some (Kc (zl rf1)).length by rw [h361]; exact T32i)
    have r2 := Ke r2 qv3
    have ok1 : ∀ e ∈ zl rf1, e.ok v3 := fun e he => (ok1 e he).below hv_
    have mg1 : ∀ f ∈ rf1, f.mg v3 := fun f hf => (mg1 f hf).below hv_
    have HB := Kb HB qv3
    clear F1 sz_ hsz hv_ hq_ h361
    have zn2 := zn2.below qv3
    have c0 := Ka qv3 c0
    have c1 := Ka qv3 c1
    have c2 := Ka qv3 c2
    have hIR := hid (hIR.out hva)
    have hIE := hIE.out hva
    clear HIv r1
    rcases hIE with rfl | rfl
    case inr =>
     have HR : Hid (P = (noB, 4)) := by unfold Hid; rw [← hQ.out]; unfold wrpE; rw [hbm, hva, hs]; rfl
     clear hQ HDk hIR s1 ok1 mg1 hz1
     have k0 : (v3).cell? ⟨w.heap.size + 1 + 1, 0, none⟩ = some (.int .i64 0) := r2 0 _ rfl
     have k1 : (v3).cell? ⟨w.heap.size + 1 + 1, 1, none⟩ = some (.int .i64 0) := r2 1 _ rfl
     have k2 : (v3).cell? ⟨w.heap.size + 1 + 1, 2, none⟩ = some (.slice none 0 0) := r2 2 _ rfl
     have ltk := Kd k0
     have fk := zn2.fr
     have HBf := hid (Kg (Kg (Kg HB (show w.heap.size ≤ w.heap.size + 1 + 1 by omega) 0 (.int .i64 0)) (show w.heap.size ≤ w.heap.size + 1 + 1 by omega) 1 (.int .i64 0)) (show w.heap.size ≤ w.heap.size + 1 + 1 by omega) 2 (.slice none 0 0))
     clear r2 zn2 HB
     go_wp2
     refine bodyPost_ret (v := .tuple #[.agg #[.int .i64 0, .int .i64 0, .slice none 0 0], .int .i64 (4)]) ?_ rfl ?_
     ·simp [results, Tryz.results17, go_sem, k0, k1, k2]
     ·rw [HR.out]
      exact ⟨none, 0, rfl, Mb.nil _, HBf.out⟩
    obtain ⟨hz1', ⟨hv1_, hn1_⟩, hN9⟩ := hIR.out rfl rf1 v3 hz1 ok1
    obtain ⟨hN9, hNz⟩ := hN9 h91 hv1_
    rw [hn1_] at hN9 hNz
    clear hIR hn1_ hv1_ hz1 mg1
    obtain ⟨a1, a2, a3, a4, a5⟩ := Jj.1 hs
    obtain ⟨C, rfl⟩ := Int.eq_ofNat_of_zero_le (show 0 ≤ cols by omega)
    obtain ⟨R, rfl⟩ := Int.eq_ofNat_of_zero_le (show 0 ≤ rows by omega)
    obtain ⟨n, hn⟩ : ∃ n, n = C * R := ⟨_, rfl⟩
    have hpn : (C : Int) * (R : Int) = (n : Int) := by rw [hn, Int.natCast_mul]
    obtain ⟨ds, hds⟩ : ∃ ds, ds = smpL m (bakZ fs) (C : Int) (R : Int) := ⟨_, rfl⟩
    have hdl : ds.length = n := by rw [hds, Wo, hpn, Int.toNat_natCast]
    have hdg := hid fun (x y : Nat) (hx : x < C) (hy : y < R) (h : y * C + x < ds.length) => (show ds[y * C + x] = atB m (bakZ fs) ((x : Int), (y : Int)) by subst hds; exact Vx hx hy h)
    have hQ1 := hid (show (⟨(C : Int), (R : Int), ds⟩, 0) = P by rw [← hQ.out]; unfold wrpE; rw [hbm, hva, hs, hds]; rfl)
    have hn4 : n ≤ 4194304 := by omega
    replace hn := hid hn
    replace hdl := hid hdl
    clear hpn a1 a3 a5
    have HDk := hid (HDk.out hbm)
    have hsome := hid fun (x y : Int) (q : Int × Int) (h : posZ (bakZ fs) x y = some q) => atR_some hbm h
    have hnone := hid fun (x y : Int) (h : posZ (bakZ fs) x y = none) => Dy (m := m) h
    have hz1 := hid hz1'
    clear hQ hs hva hbm hds hz1'
    generalize bakZ fs = N at *
    go_upto_region 10 with fail
    refine Kw (P := fun u => Code.wp _ _ _ _ u) (c := [.int .i64 (C : Int), .int .i64 (R : Int), .slice none 0 0]) ?_
    intro v4 hv4 ro zo hsz
    have HU := hid fun (W : World) (h : Below v3.heap.size v3 W) => And.intro (Kb HB h) (And.intro (And.intro (Ka h c0) (And.intro (Ka h c1) (Ka h c2))) (And.intro (And.intro (Ke r2 h) (zn2.below h)) (And.intro (Ke s1 h) (fun e (he : e ∈ zl rf1) => (ok1 e he).below h))))
    have hlr := zn2.lt
    have hlm := Kd c0
    obtain ⟨gO, hgO⟩ : ∃ g, g = v3.heap.size := ⟨_, rfl⟩
    rw [← hgO] at ro zo hlr hlm ⊢
    have hF : OutP v3 gO (C : Int) (R : Int) (ds.take 0) v4 := OutP.new hv4 hgO ro zo
    clear hv4 ro zo hsz c0 c1 c2 r2 zn2 HB s1 ok1 hgO
    go_wp2
    go_loopw [14] (fun s14 wr => ∃ y : Nat, y ≤ R ∧ s14 = .int .i64 y ∧ OutP v3 gO (C : Int) (R : Int) (ds.take (y * C)) wr) (fun s14 _ => R - (intOf s14).toNat)
    case atStart => exact ⟨0, by omega, rfl, by rw [Nat.zero_mul]; exact hF⟩
    case round =>
     obtain ⟨y, hy, rfl, hS⟩ := hrel
     clear hF
     by_cases hyR : y < R
     ·have hyi : (y : Int) < (R : Int) := by omega
      go_wp2
      go_loopw [15] (fun s15 wr => ∃ x : Nat, x ≤ C ∧ s15 = .int .i64 x ∧ OutP v3 gO (C : Int) (R : Int) (ds.take (y * C + x)) wr) (fun s15 _ => C - (intOf s15).toNat)
      case atStart => exact ⟨0, by omega, rfl, hS⟩
      case round =>
       obtain ⟨x, hx, rfl, hS⟩ := hrel
       by_cases hxC : x < C
       ·have hxi : (x : Int) < (C : Int) := by omega
        obtain ⟨HB, ⟨c0, c1, c2⟩, ⟨r2, zn2⟩, s1, ok1⟩ := HU.out wr hS.b
        have HAt := hid (fun (W : World) (h : Below wr.heap.size wr W) => V6 rf1 h91 hN9 (w := W) (fun e he => (ok1 e he).below h) hz1.out hNz (x : Int) (y : Int) ⟨by omega, by omega⟩ ⟨by omega, by omega⟩)
        have hpl := place hxC hyR
        have hk : y * C + x < ds.length := by rw [hdl.out, hn.out]; exact hpl
        have hdk := hid (hdg.out x y hxC hyR hk)
        have ltc := Kd c0
        clear ok1
        cases hq : posZ N x y with
        | none =>
         obtain ⟨p1, p2, p3⟩ := hnone.out x y hq
         rw [p2] at HAt
         rw [p3] at hdk
         clear p1 p2 p3
         obtain ⟨pv, hpv⟩ : ∃ pv, pv = false := ⟨_, rfl⟩
         rw [← hpv] at hdk
         obtain ⟨d', hd'⟩ : ∃ d', ds.take (y * C + x) ++ [pv] = d' := ⟨_, rfl⟩
         have hdn := hid (show ds.take (y * C + (x + 1)) = d' by rw [← hd', ← hdk.out, ← Nat.add_assoc, List.take_succ_eq_append_getElem hk])
         replace hd' := hid hd'
         have hdlen : (ds.take (y * C + x)).length ≤ 4194304 := by
          have h_ := hdl.out
          have h2_ := List.length_take_le (y * C + x) ds
          omega
         generalize ds.take (y * C + x) = d at *
         obtain ⟨B, k, q2, hown⟩ := hS.ex
         have HS := hid hS
         clear hq hdk hk hQ1 hsome hnone r2 zn2 hS
         go_wp2_with (first | refine wpList_load_mid (by rfl) _ _ (by rfl) x1.heap.size 0 (by rfl) (Kc (zl rf1)) _ s1 hU32 row32 hi1.out ?_ | fail)
         refine (HAt.out wr (Below.refl _ _)).mono ?_
         rintro e w1 ⟨rfl, hw1⟩
         dsimp only
         have c0 := Ka hw1 c0
         have c1 := Ka hw1 c1
         have c2 := Ka hw1 c2
         have q2 := Ka hw1 q2
         have hown := K2 hown hw1
         have hlq := Kd q2
         clear s1 HAt
         go_upto_region 17 with fail
         subst hpv
         refine Ordt.start (x := 12) (S := fun w' => w'.cell? ⟨gO, 2, none⟩ = some (.slice B d.length k) ∧ w'.cell? ⟨w.heap.size, 0, none⟩ = some (.int .i64 m.w) ∧ w'.cell? ⟨w.heap.size, 1, none⟩ = some (.int .i64 m.h) ∧ w'.cell? ⟨w.heap.size, 2, none⟩ = some (.slice A m.d.length c)) (by kernel_rfl) ?_ (fun hHeld => ?_)
         ·exact ⟨q2, c0, c1, c2⟩
         refine' TKt 0 ?_
         refine' TKt 1 ?_
         refine' TKt 2 ?_
         refine' TKt 3 ?_
         refine Ordt.takeF (i := 4) (v := undef) rfl (by decide +kernel) (Or.inr ⟨by rfl, rfl⟩) (fun _ => by assumption) (fun _ _ _ h => h) ?_
         (try simp only [Act.put, Lp0, Lp1, Lp2])
         refine Ordt.takeF (i := 5) (v := undef) rfl (by decide +kernel) (Or.inr ⟨by rfl, rfl⟩) (fun _ => by assumption) (fun _ _ _ h => h) ?_
         (try simp only [Act.put, Lp0, Lp1, Lp2])
         refine Ordt.takeF (i := 6) (v := undef) rfl (by decide +kernel) (Or.inr ⟨by rfl, rfl⟩) (fun _ => by assumption) (fun _ _ _ h => h) ?_
         (try simp only [Act.put, Lp0, Lp1, Lp2])
         refine Ordt.takeF (i := 7) (v := undef) rfl (by decide +kernel) (Or.inr ⟨by rfl, rfl⟩) (fun _ => by assumption) (fun _ _ _ h => h) ?_
         (try simp only [Act.put, Lp0, Lp1, Lp2])
         refine' TKt 8 ?_
         refine' Ordt.step (i := 9) (by decide +kernel) rfl (fun K hK => ?_)
         go_simp
         skip
         (try go_wp2_with fail)
         refine' HKa hK (by (first | ((try dsimp only); repeat' (first | with_reducible assumption | apply And.intro | (with_reducible refine Kk ?_) | (with_reducible refine Kn ?_) | (with_reducible refine Kh (by omega) ?_) | (with_reducible refine Kp (by omega) ?_) | (with_reducible refine Ka (W := w1) ?_ ?_) | fail)))) (fun hHeld => ?_)
         clear hK K
         have hwY : Below w1.heap.size w1 (w1.alloc (.cells #[.bool false] 4)).drew := ((Below.refl _ _).alloc (Nat.le_refl _) _).drew
         have hrd := (Eb bv w1 false 4).below (Below.refl _ _).drew
         refine' Ordt.step (i := 10) (by decide +kernel) rfl (fun K hK => ?_)
         (refine Wm rfl (.tmp 66) (.tmp 74) 22 rfl 4 (.bool false) 1 Tryz.underlying22 D8 rfl (gO + 1) bv (fun _ => rfl) _ d rfl (K2 hown hwY) _ 1 [false] rfl hrd (by simp; omega) (by simp; omega) (by simp; omega) ?_; intro v5 w6 hown6 hgr hwh; have hb7 : Below (gO + 1) ((w1.alloc (.cells #[.bool false] 4)).drew) w6 := J3 (K2 hown hwY) hgr (by simp; omega); have e0 := (hb7.cell (p := ⟨w.heap.size, 0, none⟩) (by dsimp only; omega)).trans (Ka hwY c0); have e1 := (hb7.cell (p := ⟨w.heap.size, 1, none⟩) (by dsimp only; omega)).trans (Ka hwY c1); have e2 := (hb7.cell (p := ⟨w.heap.size, 2, none⟩) (by dsimp only; omega)).trans (Ka hwY c2); have e3 := (hb7.cell (p := ⟨gO, 2, none⟩) (by dsimp only; omega)).trans (Ka hwY q2); rw [hd'.out] at hown6; obtain ⟨B5, k5, rfl, _, f5, l5, hO5⟩ := OutP.grow (HS.out.below (Kb hw1 hwY)) hown6 hb7)
         refine' HKa hK (by exact ⟨e3, e0, e1, e2⟩) (fun hHeld => ?_)
         clear hK K
         refine' TKt 11 ?_
         refine' Ordt.store (by decide +kernel) rfl (by decide +kernel) (fun K hK => ?_)
         go_simp
         (try go_wp2_with fail)
         refine hK.out _ _ ?_
         clear hK K
         (try simp only [Act.put, Lp0, Lp1, Lp2])
         refine Ordt.done (by decide +kernel) ?_
         have hO5 := hid hO5
         clear hgr hwh hown6 hb7 e0 e1 e2 e3 c0 c1 c2 q2 hown f5 hrd hwY
         go_wp2
         go_roundw
         case rel => exact ⟨x + 1, by omega, by go_num, by rw [hdn.out]; exact hO5.out⟩
         case measure => simp [intOf]; omega
        | some q =>
         obtain ⟨p1, p2⟩ := hsome.out x y q hq
         rw [p1] at HAt
         rw [← p2] at hdk
         clear p1 p2
         have HDk1 := hid fun (W : World) (h : Below wr.heap.size wr W) => HDk.out W (Kb HB h) (clR q.1) (clR q.2)
         generalize clR q.1 = px at *
         generalize clR q.2 = py at *
         generalize pixZ m px py = pv at *
         obtain ⟨d', hd'⟩ : ∃ d', ds.take (y * C + x) ++ [pv] = d' := ⟨_, rfl⟩
         have hdn := hid (show ds.take (y * C + (x + 1)) = d' by rw [← hd', ← hdk.out, ← Nat.add_assoc, List.take_succ_eq_append_getElem hk])
         replace hd' := hid hd'
         have hdlen : (ds.take (y * C + x)).length ≤ 4194304 := by
          have h_ := hdl.out
          have h2_ := List.length_take_le (y * C + x) ds
          omega
         generalize ds.take (y * C + x) = d at *
         obtain ⟨B, k, q2, hown⟩ := hS.ex
         have HS := hid hS
         clear hq hdk hk hQ1 hsome hnone r2 zn2 hS
         go_wp2_with (first | refine wpList_load_mid (by rfl) _ _ (by rfl) x1.heap.size 0 (by rfl) (Kc (zl rf1)) _ s1 hU32 row32 hi1.out ?_ | fail)
         refine (HAt.out wr (Below.refl _ _)).mono ?_
         rintro e w1 ⟨rfl, hw1⟩
         dsimp only
         have c0 := Ka hw1 c0
         have c1 := Ka hw1 c1
         have c2 := Ka hw1 c2
         have q2 := Ka hw1 q2
         have hown := K2 hown hw1
         have hlq := Kd q2
         clear s1 HAt
         go_upto_region 17 with fail
         refine Ordt.start (x := 12) (S := fun w' => w'.cell? ⟨gO, 2, none⟩ = some (.slice B d.length k) ∧ w'.cell? ⟨w.heap.size, 0, none⟩ = some (.int .i64 m.w) ∧ w'.cell? ⟨w.heap.size, 1, none⟩ = some (.int .i64 m.h) ∧ w'.cell? ⟨w.heap.size, 2, none⟩ = some (.slice A m.d.length c)) (by kernel_rfl) ?_ (fun hHeld => ?_)
         ·exact ⟨q2, c0, c1, c2⟩
         refine' TKt 0 ?_
         refine' TKt 1 ?_
         refine' TKt 2 ?_
         refine' TKt 3 ?_
         refine' TKt 4 ?_
         refine' TKt 5 ?_
         refine' TKt 6 ?_
         refine' Ordt.step (i := 7) (by decide +kernel) rfl (fun K hK => ?_)
         go_simp
         (go_at_call 40; (with_reducible refine (HDk1.out _ (Kb hw1 BG)).mono ?_); rintro e y1 ⟨rfl, hq_⟩; have qy1 : Below w1.heap.size w1 y1 := Kb BG hq_)
         (try go_wp2_with fail)
         refine' HKa hK (by (first | ((try dsimp only); repeat' (first | with_reducible assumption | apply And.intro | (with_reducible refine Kk ?_) | (with_reducible refine Kn ?_) | (with_reducible refine Kh (by omega) ?_) | (with_reducible refine Kp (by omega) ?_) | (with_reducible refine Ka (W := w1) ?_ ?_) | fail)))) (fun hHeld => ?_)
         clear hK K
         refine' TKt 8 ?_
         refine' Ordt.step (i := 9) (by decide +kernel) rfl (fun K hK => ?_)
         go_simp
         skip
         (try go_wp2_with fail)
         refine' HKa hK (by (first | ((try dsimp only); repeat' (first | with_reducible assumption | apply And.intro | (with_reducible refine Kk ?_) | (with_reducible refine Kn ?_) | (with_reducible refine Kh (by omega) ?_) | (with_reducible refine Kp (by omega) ?_) | (with_reducible refine Ka (W := w1) ?_ ?_) | fail)))) (fun hHeld => ?_)
         clear hK K
         have hwY := Kb qy1 ((Below.refl y1.heap.size y1).alloc (Nat.le_refl _) (.cells #[.bool pv] 4))
         have hrd := Eb bv y1 pv 4
         have hsz1 := qy1.size
         refine' Ordt.step (i := 10) (by decide +kernel) rfl (fun K hK => ?_)
         (refine Wm rfl (.tmp 66) (.tmp 74) 22 rfl 4 (.bool false) 1 Tryz.underlying22 D8 rfl (gO + 1) bv (fun _ => rfl) _ d rfl (K2 hown hwY) _ 1 [pv] rfl hrd (by simp; omega) (by simp; omega) (by simp; omega) ?_; intro v5 w6 hown6 hgr hwh; have hb7 : Below (gO + 1) (y1.alloc (.cells #[.bool pv] 4)) w6 := J3 (K2 hown hwY) hgr (by simp; omega); have e0 := (hb7.cell (p := ⟨w.heap.size, 0, none⟩) (by dsimp only; omega)).trans (Ka hwY c0); have e1 := (hb7.cell (p := ⟨w.heap.size, 1, none⟩) (by dsimp only; omega)).trans (Ka hwY c1); have e2 := (hb7.cell (p := ⟨w.heap.size, 2, none⟩) (by dsimp only; omega)).trans (Ka hwY c2); have e3 := (hb7.cell (p := ⟨gO, 2, none⟩) (by dsimp only; omega)).trans (Ka hwY q2); rw [hd'.out] at hown6; obtain ⟨B5, k5, rfl, _, f5, l5, hO5⟩ := OutP.grow (HS.out.below (Kb hw1 hwY)) hown6 hb7)
         refine' HKa hK (by exact ⟨e3, e0, e1, e2⟩) (fun hHeld => ?_)
         clear hK K
         refine' TKt 11 ?_
         refine' Ordt.store (by decide +kernel) rfl (by decide +kernel) (fun K hK => ?_)
         go_simp
         (try go_wp2_with fail)
         refine hK.out _ _ ?_
         clear hK K
         (try simp only [Act.put, Lp0, Lp1, Lp2])
         refine Ordt.done (by decide +kernel) ?_
         have hO5 := hid hO5
         clear hgr hwh hown6 hb7 e0 e1 e2 e3 c0 c1 c2 q2 hown f5 hrd hwY
         go_wp2
         go_roundw
         case rel => exact ⟨x + 1, by omega, by go_num, by rw [hdn.out]; exact hO5.out⟩
         case measure => simp [intOf]; omega
       ·obtain rfl : x = C := by omega
        have e1 : y * x + x = (y + 1) * x := by rw [Nat.add_mul, Nat.one_mul]
        rw [e1] at hS
        go_wp2
        go_roundw
        case rel => exact ⟨y + 1, by omega, by go_num, hS⟩
        case measure => simp [intOf]; omega
     ·obtain rfl : y = R := by omega
      have hHQ := hid hQ1.out.symm
      obtain ⟨HB, ⟨c0, c1, c2⟩, ⟨r2, zn2⟩, s1, ok1⟩ := HU.out wr hS.b
      rw [List.take_of_length_le (by rw [hdl.out, hn.out, Nat.mul_comm]; exact Nat.le_refl _)] at hS
      obtain ⟨B, k, q2, hown⟩ := hS.ex
      have q0 := hS.c0
      have q1 := hS.c1
      have ltq := Kd q0
      have k0 : wr.cell? ⟨w.heap.size + 1 + 1, 0, none⟩ = some (.int .i64 0) := r2 0 _ rfl
      have k1 : wr.cell? ⟨w.heap.size + 1 + 1, 1, none⟩ = some (.int .i64 0) := r2 1 _ rfl
      have k2 : wr.cell? ⟨w.heap.size + 1 + 1, 2, none⟩ = some (.slice none 0 0) := r2 2 _ rfl
      have ltk := Kd k0
      have fk := zn2.fr
      have hne : w.heap.size + 1 + 1 < gO + 1 := by omega
      have HBf := hid (Kg (Kg (Kg HB (show w.heap.size ≤ w.heap.size + 1 + 1 by omega) 0 (.int .i64 (C : Int))) (show w.heap.size ≤ w.heap.size + 1 + 1 by omega) 1 (.int .i64 (y : Int))) (show w.heap.size ≤ w.heap.size + 1 + 1 by omega) 2 (.slice B ds.length k))
      have HMf := hid (own_mb (Zx (i := 2) (u := .slice B ds.length k) (Zx (i := 1) (u := .int .i64 (y : Int)) (Zx (i := 0) (u := .int .i64 (C : Int)) hown hne) hne) hne))
      clear r2 zn2 HB hown hS HU HDk hsome hnone hdg hQ1 s1 ok1 c0 c1 c2
      generalize hdn : ds.length = dn at *
      go_wp2
      refine bodyPost_ret (v := .tuple #[.agg #[.int .i64 (C : Int), .int .i64 (y : Int), .slice B dn k], .int .i64 0]) ?_ rfl ?_
      ·simp [results, Tryz.results17, go_sem, k0, k1, k2]
      ·rw [hHQ.out]
       exact ⟨B, k, by rw [← hdn], HMf.out, HBf.out⟩
end Go.Proofs.YtdkgbkbbbldliaaGreat
