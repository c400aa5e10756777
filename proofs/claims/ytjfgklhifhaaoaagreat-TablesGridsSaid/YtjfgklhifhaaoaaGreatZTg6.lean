/- Tables: framed of the reference. Conditions: at most 512 valid lines. -/
import Derived.Test.YtjfgklhifhaaoaaGreatZGB
import Derived.Test.YtjfgklhifhaaoaaGreatZTw4
import Derived.Deep.RegionHeld3
set_option linter.unusedVariables false
set_option linter.unusedSimpArgs false
namespace Go.Proofs.YtjfgklhifhaaoaaGreat
open Go.RowKit
theorem own_blk {α : Type} {X : Knd α} {w : World} {base n c b o : Nat} {l : List α} (h : X.Own w base (.slice (some ⟨b, o, none⟩) n c) l) : base ≤ b := by
 rcases h.2 with ⟨e, _⟩ | ⟨g, cap, cur, e, hbg, _⟩
 ·cases e
 ·injection e with e
  injection e with e
  injection e with e
  omega
set_option maxRecDepth 100000 in
set_option maxHeartbeats 16000000 in
theorem RFrm_g (l : List Ru) (A : Option Addr) (c : Nat) {w : World} (hl : RuK.Rd w A c l) (h5 : l.length ≤ 512) (hok : ∀ r ∈ l, okR r = true) :
  Calls Tryz.prog 41 #[.slice A l.length c] w (RetFm w (bndR l false) (bndR l true) (frmR l)) := by
 have hB1 := hid fun (W : World) (hb : Below w.heap.size w W) => RBnd_g l A c false (hl.below hb) (by omega) hok
 have hB2 := hid fun (W : World) (hb : Below w.heap.size w W) => RBnd_g l A c true (hl.below hb) (by omega) hok
 have hno := hid fun h => frm_no (l := l) h
 have hff := hid fun h1 h2 => frf hok h1 h2
 have hlH := bndR_len l false (by omega)
 have hlV := bndR_len l true (by omega)
 obtain ⟨n, hn⟩ : ∃ n, l.length = n := ⟨_, rfl⟩
 have hM := hid fun (j : Nat) (hj : j < n) (W : World) (hb : Below w.heap.size w W) => (hl.below hb).at_ (j := j) (by omega)
 have hMb := hid fun (b o : Nat) (e : A = some ⟨b, o, none⟩) (h : 0 < n) => (show b < w.heap.size from by
  obtain ⟨b', o', e', h', _⟩ := hl.rd (by omega)
  rw [e] at e'; injection e' with e'; injection e' with e'; omega)
 have cc := Nat.le_trans hl.cap hl.max
 rw [hn] at cc hB1 hB2 hlH hlV h5 ⊢
 replace hn := hid hn
 clear hl hok
 generalize bndR l false = H at *
 generalize bndR l true = V at *
 generalize frmR l = q at *
 go_enter Tryz.func41, Tryz.ntmps41
 go_upto_region 2 with fail
 refine enterR2 (P := fun u => Code.wp _ _ _ _ u) (c0 := [.slice none 0 0, .slice none 0 0, .slice none 0 0, .slice none 0 0]) (c1 := [.slice none 0 0, .slice none 0 0, .slice none 0 0, .slice none 0 0]) ?_
 intro u HB r0 r1 z0 z1 hsz
 clear hsz
 have hgu0 := z1.lt
 go_wp2_with fail
 refine (hB1.out u HB).mono ?_
 rintro e v ⟨A1, n1, c1, rfl, hb1, hv⟩
 have hgv0 := Nat.lt_of_lt_of_le hgu0 hv.size
 replace HB := bel_step HB hv
 replace r0 := rng_below r0 hv
 replace r1 := rng_below r1 hv
 replace z0 := z0.below hv
 replace z1 := z1.below hv
 clear hv hB1
 go_wp2_with fail
 refine (hB2.out v HB).mono ?_
 rintro e v2 ⟨A2, n2, c2, rfl, hb2, hv⟩
 replace HB := bel_step HB hv
 replace r0 := rng_below r0 hv
 replace r1 := rng_below r1 hv
 replace z0 := z0.below hv
 replace z1 := z1.below hv
 have hlt0 := z0.lt
 have hlt1 := z1.lt
 replace hb1 := hid fun h => (show n1 = H.length ∧ PtK.Own v2 u.heap.size (.slice A1 n1 c1) H from ⟨(hb1 h).1, (hb1 h).2.below hv⟩)
 clear hv hB2
 have k0 : v2.cell? ⟨w.heap.size, 0, none⟩ = some (.slice none 0 0) := r0 0 _ rfl
 have k1 : v2.cell? ⟨w.heap.size, 1, none⟩ = some (.slice none 0 0) := r0 1 _ rfl
 have k2 : v2.cell? ⟨w.heap.size, 2, none⟩ = some (.slice none 0 0) := r0 2 _ rfl
 have k3 : v2.cell? ⟨w.heap.size, 3, none⟩ = some (.slice none 0 0) := r0 3 _ rfl
 have p0 : v2.cell? ⟨w.heap.size + 1, 0, none⟩ = some (.slice none 0 0) := r1 0 _ rfl
 have p1 : v2.cell? ⟨w.heap.size + 1, 1, none⟩ = some (.slice none 0 0) := r1 1 _ rfl
 have p2 : v2.cell? ⟨w.heap.size + 1, 2, none⟩ = some (.slice none 0 0) := r1 2 _ rfl
 have p3 : v2.cell? ⟨w.heap.size + 1, 3, none⟩ = some (.slice none 0 0) := r1 3 _ rfl
 have fk0 := z0.fr
 have fk1 := z1.fr
 by_cases hap : aptE H = true ∧ aptE V = true
 ·obtain ⟨hapH, hapV⟩ := hap
  obtain ⟨rfl, hO1⟩ := hb1.out hapH
  obtain ⟨rfl, hO2⟩ := hb2 hapV
  have hF := hid (hff.out hapH hapV)
  (try rw [hapH])
  (try rw [hapV])
  clear hb1 hb2 hff hno hapH hapV
  obtain ⟨NH, hNH⟩ : ∃ x, H.length = x := ⟨_, rfl⟩
  obtain ⟨NV, hNV⟩ : ∃ x, V.length = x := ⟨_, rfl⟩
  have hH2 : 2 ≤ NH := by rw [← hNH]; exact hF.out.h2
  have hV2 : 2 ≤ NV := by rw [← hNV]; exact hF.out.v2
  rw [hNH] at hO1 hlH
  rw [hNV] at hO2 hlV
  (try rw [hNH])
  (try rw [hNV])
  have hfin := hid fun (e : Ending) (w' : World) A1 n1 c1 A2 n2 c2 A3 n3 c3 A4 n4 c4 (h1 : e = .returned (.tuple #[.agg #[.slice A1 n1 c1, .slice A2 n2 c2, .slice A3 n3 c3, .slice A4 n4 c4], .bool q.isSome])) (h2 : ∀ s, q = some s → (n1 = NH ∧ n2 = NV) ∧ (PtK.Rd w' A1 c1 H ∧ PtK.Rd w' A2 c2 V) ∧ RdW w' (NV - 1) A3 n3 c3 s.O ∧ RdW w' (NH - 1) A4 n4 c4 s.S) (h3 : Below w.heap.size w w') => (show RetFm w H V q e w' from ⟨A1, n1, c1, A2, n2, c2, A3, n3, c3, A4, n4, c4, h1, by rw [hNH, hNV]; exact h2, h3⟩)
  replace hNH := hid hNH
  replace hNV := hid hNV
  go_upto_region 8 with fail
  obtain ⟨gf, hgf⟩ : ∃ x, w.heap.size + 1 = x := ⟨_, rfl⟩
  rw [hgf] at p0 p1 p2 p3 z1 hlt1 fk1 ⊢
  have hrx : (v2.setCell ⟨gf, 0, none⟩ (.slice A1 NH c1)).rangeAt gf 0 [.slice A1 NH c1, .slice none 0 0, .slice none 0 0, .slice none 0 0] := fun j v hv => by
   match j, hv with
   | 0, hv => obtain rfl := Option.some.inj hv; exact at_set p0
   | 1, hv => obtain rfl := Option.some.inj hv; exact (cell_set_ne (by omega)).trans p1
   | 2, hv => obtain rfl := Option.some.inj hv; exact (cell_set_ne (by omega)).trans p2
   | 3, hv => obtain rfl := Option.some.inj hv; exact (cell_set_ne (by omega)).trans p3
  have hry : ((v2.setCell ⟨gf, 0, none⟩ (.slice A1 NH c1)).setCell ⟨gf, 1, none⟩ (.slice A2 NV c2)).rangeAt gf 0 [.slice A1 NH c1, .slice A2 NV c2, .slice none 0 0, .slice none 0 0] := fun j v hv => by
   match j, hv with
   | 0, hv => obtain rfl := Option.some.inj hv; exact (cell_set_ne (by omega)).trans (hrx 0 _ rfl)
   | 1, hv => obtain rfl := Option.some.inj hv; exact at_set (hrx 1 _ rfl)
   | 2, hv => obtain rfl := Option.some.inj hv; exact (cell_set_ne (by omega)).trans (hrx 2 _ rfl)
   | 3, hv => obtain rfl := Option.some.inj hv; exact (cell_set_ne (by omega)).trans (hrx 3 _ rfl)
  have hzy : Zn ((v2.setCell ⟨gf, 0, none⟩ (.slice A1 NH c1)).setCell ⟨gf, 1, none⟩ (.slice A2 NV c2)) gf := z1.set_.set_
  have hby := below_set (below_set HB (show w.heap.size ≤ gf by omega) 0 (.slice A1 NH c1)) (show w.heap.size ≤ gf by omega) 1 (.slice A2 NV c2)
  have hzr : Zn ((v2.setCell ⟨gf, 0, none⟩ (.slice A1 NH c1)).setCell ⟨gf, 1, none⟩ (.slice A2 NV c2)) w.heap.size := z0.set_.set_
  have hgu : gf < u.heap.size := by omega
  have hgv : gf < v.heap.size := by omega
  have hOH := (own_off (i := 1) (u := .slice A2 NV c2) (own_off (i := 0) (u := .slice A1 NH c1) hO1 hgu) hgu)
  have hOV := (own_off (i := 1) (u := .slice A2 NV c2) (own_off (i := 0) (u := .slice A1 NH c1) hO2 hgv) hgv)
  have e0 : ((v2.setCell ⟨gf, 0, none⟩ (.slice A1 NH c1)).setCell ⟨gf, 1, none⟩ (.slice A2 NV c2)).cell? ⟨w.heap.size, 0, none⟩ = some (.slice none 0 0) := keep_set (by omega) (keep_set (by omega) k0)
  have e1 : ((v2.setCell ⟨gf, 0, none⟩ (.slice A1 NH c1)).setCell ⟨gf, 1, none⟩ (.slice A2 NV c2)).cell? ⟨w.heap.size, 1, none⟩ = some (.slice none 0 0) := keep_set (by omega) (keep_set (by omega) k1)
  have e2 : ((v2.setCell ⟨gf, 0, none⟩ (.slice A1 NH c1)).setCell ⟨gf, 1, none⟩ (.slice A2 NV c2)).cell? ⟨w.heap.size, 2, none⟩ = some (.slice none 0 0) := keep_set (by omega) (keep_set (by omega) k2)
  have e3 : ((v2.setCell ⟨gf, 0, none⟩ (.slice A1 NH c1)).setCell ⟨gf, 1, none⟩ (.slice A2 NV c2)).cell? ⟨w.heap.size, 3, none⟩ = some (.slice none 0 0) := keep_set (by omega) (keep_set (by omega) k3)
  obtain ⟨y, hy⟩ : ∃ x, ((v2.setCell ⟨gf, 0, none⟩ (.slice A1 NH c1)).setCell ⟨gf, 1, none⟩ (.slice A2 NV c2)) = x := ⟨_, rfl⟩
  rw [hy] at hry hzy hby hzr hOH hOV e0 e1 e2 e3 ⊢
  have hgy := hzy.lt
  have hFm0 : Fm y gf (NV - 1) (NH - 1) (.slice A1 NH c1) (.slice A2 NV c2) (.slice none 0 0) (.slice none 0 0) [] [] [] [] y :=
   ⟨hry, hzy, Knd.Own.nil _ _, Knd.Own.nil _ _, ⟨rfl, fun k h1 _ => by simp at h1⟩, ⟨rfl, fun k h1 _ => by simp at h1⟩, fun g h => by simp at h, by simp, fun g h => by simp at h, fun g h => by simp at h, .inl rfl, World.grownBy.refl _ _, hgy⟩
  have hKp := hid fun (W : World) (hg : y.grownBy W (some gf)) => (show (Below w.heap.size w W ∧ PtK.Rd W A1 c1 H ∧ PtK.Rd W A2 c2 V) ∧ (W.cell? ⟨w.heap.size, 0, none⟩ = some (.slice none 0 0) ∧ W.cell? ⟨w.heap.size, 1, none⟩ = some (.slice none 0 0)) ∧ (W.cell? ⟨w.heap.size, 2, none⟩ = some (.slice none 0 0) ∧ W.cell? ⟨w.heap.size, 3, none⟩ = some (.slice none 0 0)) ∧ Zn W w.heap.size ∧ PtK.Own W u.heap.size (.slice A1 NH c1) H ∧ PtK.Own W v.heap.size (.slice A2 NV c2) V from by
   have hne : some w.heap.size ≠ some gf := fun e => by injection e; omega
   refine ⟨⟨?_, ?_, ?_⟩, ⟨hg.cell e0 hne, hg.cell e1 hne⟩, ⟨hg.cell e2 hne, hg.cell e3 hne⟩, ⟨Nat.lt_of_lt_of_le hzr.lt hg.size, fun i => (World.frozen?_of_block (a := ⟨w.heap.size, i, none⟩) (hg.block _ hzr.lt hne)).trans (hzr.fr i)⟩, own_other hOH hg (.inr fun e => by have := (hOH.lt e).1; omega), own_other hOV hg (.inr fun e => by have := (hOV.lt e).1; omega)⟩
   ·exact Below.grown hby hg (by omega) (fun k e => by injection e; omega)
   ·exact Rd.gb (hOH.rd2 PtKo).1 hg fun b o e _ => by subst e; have := own_blk hOH; omega
   ·exact Rd.gb (hOV.rd2 PtKo).1 hg fun b o e _ => by subst e; have := own_blk hOV; omega)
  obtain ⟨K1, hK1⟩ : ∃ x, NV - 1 = x := ⟨_, rfl⟩
  obtain ⟨K2, hK2⟩ : ∃ x, NH - 1 = x := ⟨_, rfl⟩
  rw [hK1, hK2] at hFm0
  have hwK1 : IntKind.i64.wrap ((NV : Int) - 1) = (K1 : Int) := by rw [IntKind.wrap_i64]; omega
  have hwK2 : IntKind.i64.wrap ((NH : Int) - 1) = (K2 : Int) := by rw [IntKind.wrap_i64]; omega
  have hmk1 := fun (W : World) => makeB W K1 (by omega) (K1 : Int) rfl
  have hmk2 := fun (W : World) => makeB W K2 (by omega) (K2 : Int) rfl
  clear hy hry hzy hby hzr hOH hOV e0 e1 e2 e3 hrx hO1 hO2 k0 k1 k2 k3 p0 p1 p2 p3 fk0 fk1 z0 z1 r0 r1 HB hgu hgv
  go_wp2
  go_loopw [9] (fun s9 wr => ∃ i : Nat, s9 = .int .i64 i ∧ i ≤ NH ∧ ∃ ov go, Fm y gf K1 K2 (.slice A1 NH c1) (.slice A2 NV c2) ov (.slice none 0 0) go [] (List.replicate i (List.replicate K1 false)) [] wr) (fun s9 _ => NH - (intOf s9).toNat)
  case atStart => exact ⟨0, rfl, by omega, _, _, hFm0⟩
  case round =>
   clear hFm0
   obtain ⟨i, rfl, hi, ov, go, hFm⟩ := hrel
   by_cases hin : i < NH
   ·have hii : (i : Int) < (NH : Int) := by omega
    have hgl := hFm.op.len
    rw [List.length_replicate] at hgl
    obtain ⟨A7, c7, rfl⟩ := hFm.oo.form (SlKo K1)
    rw [hgl] at hFm
    replace hgl := hid hgl
    have cO : wr.cell? ⟨gf, 2, none⟩ = some (.slice A7 i c7) := hFm.r 2 _ rfl
    clear hKp hfin hM hF hmk2 hwK2
    go_upto_region 11 with fail
    refine Ords.start (x := 9) (S := fun w' => w'.cell? ⟨gf, 2, none⟩ = some (.slice A7 i c7)) (by kernel_rfl) cO (fun hHeld => ?_)
    have hdb : Below wr.heap.size wr wr.drew := (Below.refl _ _).drew
    replace hFm := hFm.below hdb
    generalize wr.drew = xd at hFm hHeld ⊢
    clear hdb cO
    refine' Ords.take (i := 0) ?_ ?_ ?_ ?_ ?_ ?_ ?_ ?_ ?_
    rotate_left 2
    ·(simp only [List.getElem?_toArray, List.getElem?_cons_succ, List.getElem?_cons_zero]; rfl)
    ·kernel_rfl
    ·kernel_rfl
    ·kernel_rfl
    ·kernel_rfl
    ·exact fun _ _ _ h => h
    ·(refine Or.inl ⟨by rfl, ?_⟩; intro w_ hSw_; (try dsimp only at hSw_); go_simp; (try with_reducible rfl))
    ·assumption
    (try simp only [Act.put, Lp0, Lp1, Lp2])
    refine' Ords.take (i := 1) ?_ ?_ ?_ ?_ ?_ ?_ ?_ ?_ ?_
    rotate_left 2
    ·(simp only [List.getElem?_toArray, List.getElem?_cons_succ, List.getElem?_cons_zero]; rfl)
    ·kernel_rfl
    ·kernel_rfl
    ·kernel_rfl
    ·kernel_rfl
    ·exact fun _ _ _ h => h
    ·(refine Or.inl ⟨by rfl, ?_⟩; intro w_ hSw_; (try dsimp only at hSw_); go_simp; (try with_reducible rfl))
    ·assumption
    (try simp only [Act.put, Lp0, Lp1, Lp2])
    refine' Ords.take (i := 2) ?_ ?_ ?_ ?_ ?_ ?_ ?_ ?_ ?_
    rotate_left 2
    ·(simp only [List.getElem?_toArray, List.getElem?_cons_succ, List.getElem?_cons_zero]; rfl)
    ·kernel_rfl
    ·kernel_rfl
    ·kernel_rfl
    ·kernel_rfl
    ·exact fun _ _ _ h => h
    ·(refine Or.inl ⟨by rfl, ?_⟩; intro w_ hSw_; (try dsimp only at hSw_); go_simp; (try with_reducible rfl))
    ·assumption
    (try simp only [Act.put, Lp0, Lp1, Lp2])
    refine' Ords.take (i := 3) ?_ ?_ ?_ ?_ ?_ ?_ ?_ ?_ ?_
    rotate_left 2
    ·(simp only [List.getElem?_toArray, List.getElem?_cons_succ, List.getElem?_cons_zero]; rfl)
    ·kernel_rfl
    ·kernel_rfl
    ·kernel_rfl
    ·kernel_rfl
    ·exact fun _ _ _ h => h
    ·(refine Or.inl ⟨by rfl, ?_⟩; intro w_ hSw_; (try dsimp only at hSw_); go_simp; (try with_reducible rfl))
    ·assumption
    (try simp only [Act.put, Lp0, Lp1, Lp2])
    refine' Ords.take (i := 4) ?_ ?_ ?_ ?_ ?_ ?_ ?_ ?_ ?_
    rotate_left 2
    ·(simp only [List.getElem?_toArray, List.getElem?_cons_succ, List.getElem?_cons_zero]; rfl)
    ·kernel_rfl
    ·kernel_rfl
    ·kernel_rfl
    ·kernel_rfl
    ·exact fun _ _ _ h => h
    ·(refine Or.inl ⟨by rfl, ?_⟩; intro w_ hSw_; (try dsimp only at hSw_); go_simp; (try with_reducible rfl))
    ·assumption
    (try simp only [Act.put, Lp0, Lp1, Lp2])
    have hp1 : PxA (xd.alloc (.cells ((List.replicate K1 false).map bv).toArray 4)) xd.heap.size (List.replicate K1 false) := ⟨rng_alloc, Zn.new_⟩
    have hb1 : Below xd.heap.size xd (xd.alloc (.cells ((List.replicate K1 false).map bv).toArray 4)) := (Below.refl _ _).alloc (Nat.le_refl _) _
    have hz1 : (xd.alloc (.cells ((List.replicate K1 false).map bv).toArray 4)).heap.size > xd.heap.size := by rw [sA]; omega
    refine' Ords.step (i := 5) (by kernel_rfl) (by simp only [List.getElem?_toArray, List.getElem?_cons_succ, List.getElem?_cons_zero]; rfl) (fun K hK => ?_)
    go_simp
    skip
    (try go_wp2_with fail)
    refine hK.out _ _ ?_ (fun hHeld => ?_)
    ·exact keep_alloc hHeld
    clear hK K
    (try simp only [Act.put, Lp0, Lp1, Lp2])
    (try rw [show Array.replicate K1 (bv false) = ((List.replicate K1 false).map bv).toArray from by simp])
    obtain ⟨x1, hx1⟩ : ∃ x, xd.alloc (.cells ((List.replicate K1 false).map bv).toArray 4) = x := ⟨_, rfl⟩
    rw [hx1] at hp1 hb1 hz1
    (try rw [hx1])
    (try rw [show Array.replicate K1 (bv false) = ((List.replicate K1 false).map bv).toArray from by simp] at hHeld)
    rw [hx1] at hHeld
    clear hx1
    obtain ⟨g1, hg1⟩ : ∃ x, xd.heap.size = x := ⟨_, rfl⟩
    have hrA := rng_alloc (w := x1) (cs := [.slice (some ⟨g1, 0, none⟩) K1 K1]) (t := 22)
    have hbA : Below x1.heap.size x1 (x1.alloc (.cells #[.slice (some ⟨g1, 0, none⟩) K1 K1] 22)) := (Below.refl _ _).alloc (Nat.le_refl _) _
    rw [hg1] at hp1 hz1
    (try rw [hg1])
    refine' Ords.step (i := 6) (by kernel_rfl) (by simp only [List.getElem?_toArray, List.getElem?_cons_succ, List.getElem?_cons_zero]; rfl) (fun K hK => ?_)
    go_simp
    skip
    (try go_wp2_with fail)
    refine hK.out _ _ ?_ (fun hHeld => ?_)
    ·exact keep_alloc hHeld
    clear hK K
    (try simp only [Act.put, Lp0, Lp1, Lp2])
    obtain ⟨x2, hx2⟩ : ∃ x, x1.alloc (.cells #[.slice (some ⟨g1, 0, none⟩) K1 K1] 22) = x := ⟨_, rfl⟩
    have hrA : x2.rangeAt x1.heap.size 0 ((SlK K1).enc g1) := by rw [← hx2]; exact hrA
    have hz2 : x2.heap.size > x1.heap.size := by rw [← hx2, sA]; omega
    rw [hx2] at hbA hHeld ⊢
    have hbB := bel_step hb1 hbA
    replace hp1 := hp1.below hbA
    have hFm2 := hFm.below hbB
    have hgsz := hFm2.gb.size
    clear hx2 hbA hb1
    refine' Ords.step (i := 7) (by kernel_rfl) (by simp only [List.getElem?_toArray, List.getElem?_cons_succ, List.getElem?_cons_zero]; rfl) (fun K hK => ?_)
    (refine Knd.step_app1 (SlKo K1) rfl (.tmp 43) (.tmp 48) rfl y.heap.size (.slice A7 i c7) go g1 x1.heap.size rfl hFm2.oo rfl hrA (by have := hgl.out; omega) hgsz ?_; intro v7 w7 hO7 hg7 hat7; obtain ⟨A8, c8, rfl⟩ := hO7.form (SlKo K1); have hL7 : (go ++ [g1]).length = i + 1 := (by rw [List.length_append, hgl.out]; rfl); rw [hL7] at hO7 hat7 ⊢; have hA7 := hFm.addO hbB hp1 (by omega) hO7 hg7 hat7 (by omega))
    refine hK.out _ _ ?_ (fun hHeld => ?_)
    ·exact hA7.1 2 _ rfl
    clear hK K
    (try simp only [Act.put, Lp0, Lp1, Lp2])
    obtain ⟨q7, hM7⟩ := hA7
    have hzf := hid hM7.z
    have fz7 : ∀ j, w7.frozen? ⟨gf, j, none⟩ = false := fun j => by have := hzf.out.fr j; simpa using this
    have l2 : w7.cell? ⟨gf, 2, none⟩ = some (.slice A7 i c7) := q7 2 _ rfl
    replace hM7 := hid hM7
    clear hFm hFm2 hO7 hg7 hat7 hrA hp1 hbB q7
    refine' Ords.take (i := 8) ?_ ?_ ?_ ?_ ?_ ?_ ?_ ?_ ?_
    rotate_left 2
    ·(simp only [List.getElem?_toArray, List.getElem?_cons_succ, List.getElem?_cons_zero]; rfl)
    ·kernel_rfl
    ·kernel_rfl
    ·kernel_rfl
    ·kernel_rfl
    ·exact fun _ _ _ h => h
    ·(refine Or.inl ⟨by rfl, ?_⟩; intro w_ hSw_; (try dsimp only at hSw_); go_simp; (try with_reducible rfl))
    ·assumption
    (try simp only [Act.put, Lp0, Lp1, Lp2])
    refine' Ords.last (by kernel_rfl) (by simp only [List.getElem?_toArray, List.getElem?_cons_succ, List.getElem?_cons_zero]; rfl) (by kernel_rfl) (fun K hK => ?_)
    go_simp
    (try go_wp2_with fail)
    refine hK.out _ _ ?_
    clear hK K
    (try simp only [Act.put, Lp0, Lp1, Lp2])
    go_wp2
    go_roundw
    case rel => exact ⟨i + 1, by go_num, by omega, _, _, by rw [List.replicate_succ']; exact hM7.out⟩
    case measure => simp [intOf]; omega
   ·obtain rfl : NH = i := by omega
    have hii : ¬ (NH : Int) < (NH : Int) := by omega
    have hgo := hFm.op.len
    rw [List.length_replicate] at hgo
    replace hgo := hid hgo
    clear hmk1 hwK1
    go_wp2
    obtain ⟨w0, hw0⟩ : ∃ x, x = wr := ⟨_, rfl⟩
    subst hw0
    go_loopw [10] (fun s10 wr => ∃ i : Nat, s10 = .int .i64 i ∧ i ≤ NV ∧ ∃ sv gs, Fm y gf K1 K2 (.slice A1 NH c1) (.slice A2 NV c2) ov sv go gs (List.replicate NH (List.replicate K1 false)) (List.replicate i (List.replicate K2 false)) wr) (fun s10 _ => NV - (intOf s10).toNat)
    case atStart => exact ⟨0, rfl, by omega, _, _, hFm⟩
    case round =>
     clear hFm
     obtain ⟨i, rfl, hi, sv, gs, hFm⟩ := hrel
     by_cases hin : i < NV
     ·have hii : (i : Int) < (NV : Int) := by omega
      have hgl := hFm.sp.len
      rw [List.length_replicate] at hgl
      obtain ⟨A7, c7, rfl⟩ := hFm.so.form (SlKo K2)
      rw [hgl] at hFm
      replace hgl := hid hgl
      have cO : wr.cell? ⟨gf, 3, none⟩ = some (.slice A7 i c7) := hFm.r 3 _ rfl
      clear hKp hfin hM hF
      go_upto_region 15 with fail
      refine Ords.start (x := 9) (S := fun w' => w'.cell? ⟨gf, 3, none⟩ = some (.slice A7 i c7)) (by kernel_rfl) cO (fun hHeld => ?_)
      have hdb : Below wr.heap.size wr wr.drew := (Below.refl _ _).drew
      replace hFm := hFm.below hdb
      generalize wr.drew = xd at hFm hHeld ⊢
      clear hdb cO
      refine' Ords.take (i := 0) ?_ ?_ ?_ ?_ ?_ ?_ ?_ ?_ ?_
      rotate_left 2
      ·(simp only [List.getElem?_toArray, List.getElem?_cons_succ, List.getElem?_cons_zero]; rfl)
      ·kernel_rfl
      ·kernel_rfl
      ·kernel_rfl
      ·kernel_rfl
      ·exact fun _ _ _ h => h
      ·(refine Or.inl ⟨by rfl, ?_⟩; intro w_ hSw_; (try dsimp only at hSw_); go_simp; (try with_reducible rfl))
      ·assumption
      (try simp only [Act.put, Lp0, Lp1, Lp2])
      refine' Ords.take (i := 1) ?_ ?_ ?_ ?_ ?_ ?_ ?_ ?_ ?_
      rotate_left 2
      ·(simp only [List.getElem?_toArray, List.getElem?_cons_succ, List.getElem?_cons_zero]; rfl)
      ·kernel_rfl
      ·kernel_rfl
      ·kernel_rfl
      ·kernel_rfl
      ·exact fun _ _ _ h => h
      ·(refine Or.inl ⟨by rfl, ?_⟩; intro w_ hSw_; (try dsimp only at hSw_); go_simp; (try with_reducible rfl))
      ·assumption
      (try simp only [Act.put, Lp0, Lp1, Lp2])
      refine' Ords.take (i := 2) ?_ ?_ ?_ ?_ ?_ ?_ ?_ ?_ ?_
      rotate_left 2
      ·(simp only [List.getElem?_toArray, List.getElem?_cons_succ, List.getElem?_cons_zero]; rfl)
      ·kernel_rfl
      ·kernel_rfl
      ·kernel_rfl
      ·kernel_rfl
      ·exact fun _ _ _ h => h
      ·(refine Or.inl ⟨by rfl, ?_⟩; intro w_ hSw_; (try dsimp only at hSw_); go_simp; (try with_reducible rfl))
      ·assumption
      (try simp only [Act.put, Lp0, Lp1, Lp2])
      refine' Ords.take (i := 3) ?_ ?_ ?_ ?_ ?_ ?_ ?_ ?_ ?_
      rotate_left 2
      ·(simp only [List.getElem?_toArray, List.getElem?_cons_succ, List.getElem?_cons_zero]; rfl)
      ·kernel_rfl
      ·kernel_rfl
      ·kernel_rfl
      ·kernel_rfl
      ·exact fun _ _ _ h => h
      ·(refine Or.inl ⟨by rfl, ?_⟩; intro w_ hSw_; (try dsimp only at hSw_); go_simp; (try with_reducible rfl))
      ·assumption
      (try simp only [Act.put, Lp0, Lp1, Lp2])
      refine' Ords.take (i := 4) ?_ ?_ ?_ ?_ ?_ ?_ ?_ ?_ ?_
      rotate_left 2
      ·(simp only [List.getElem?_toArray, List.getElem?_cons_succ, List.getElem?_cons_zero]; rfl)
      ·kernel_rfl
      ·kernel_rfl
      ·kernel_rfl
      ·kernel_rfl
      ·exact fun _ _ _ h => h
      ·(refine Or.inl ⟨by rfl, ?_⟩; intro w_ hSw_; (try dsimp only at hSw_); go_simp; (try with_reducible rfl))
      ·assumption
      (try simp only [Act.put, Lp0, Lp1, Lp2])
      have hp1 : PxA (xd.alloc (.cells ((List.replicate K2 false).map bv).toArray 4)) xd.heap.size (List.replicate K2 false) := ⟨rng_alloc, Zn.new_⟩
      have hb1 : Below xd.heap.size xd (xd.alloc (.cells ((List.replicate K2 false).map bv).toArray 4)) := (Below.refl _ _).alloc (Nat.le_refl _) _
      have hz1 : (xd.alloc (.cells ((List.replicate K2 false).map bv).toArray 4)).heap.size > xd.heap.size := by rw [sA]; omega
      refine' Ords.step (i := 5) (by kernel_rfl) (by simp only [List.getElem?_toArray, List.getElem?_cons_succ, List.getElem?_cons_zero]; rfl) (fun K hK => ?_)
      go_simp
      skip
      (try go_wp2_with fail)
      refine hK.out _ _ ?_ (fun hHeld => ?_)
      ·exact keep_alloc hHeld
      clear hK K
      (try simp only [Act.put, Lp0, Lp1, Lp2])
      (try rw [show Array.replicate K2 (bv false) = ((List.replicate K2 false).map bv).toArray from by simp])
      obtain ⟨x1, hx1⟩ : ∃ x, xd.alloc (.cells ((List.replicate K2 false).map bv).toArray 4) = x := ⟨_, rfl⟩
      rw [hx1] at hp1 hb1 hz1
      (try rw [hx1])
      (try rw [show Array.replicate K2 (bv false) = ((List.replicate K2 false).map bv).toArray from by simp] at hHeld)
      rw [hx1] at hHeld
      clear hx1
      obtain ⟨g1, hg1⟩ : ∃ x, xd.heap.size = x := ⟨_, rfl⟩
      have hrA := rng_alloc (w := x1) (cs := [.slice (some ⟨g1, 0, none⟩) K2 K2]) (t := 22)
      have hbA : Below x1.heap.size x1 (x1.alloc (.cells #[.slice (some ⟨g1, 0, none⟩) K2 K2] 22)) := (Below.refl _ _).alloc (Nat.le_refl _) _
      rw [hg1] at hp1 hz1
      (try rw [hg1])
      refine' Ords.step (i := 6) (by kernel_rfl) (by simp only [List.getElem?_toArray, List.getElem?_cons_succ, List.getElem?_cons_zero]; rfl) (fun K hK => ?_)
      go_simp
      skip
      (try go_wp2_with fail)
      refine hK.out _ _ ?_ (fun hHeld => ?_)
      ·exact keep_alloc hHeld
      clear hK K
      (try simp only [Act.put, Lp0, Lp1, Lp2])
      obtain ⟨x2, hx2⟩ : ∃ x, x1.alloc (.cells #[.slice (some ⟨g1, 0, none⟩) K2 K2] 22) = x := ⟨_, rfl⟩
      have hrA : x2.rangeAt x1.heap.size 0 ((SlK K2).enc g1) := by rw [← hx2]; exact hrA
      have hz2 : x2.heap.size > x1.heap.size := by rw [← hx2, sA]; omega
      rw [hx2] at hbA hHeld ⊢
      have hbB := bel_step hb1 hbA
      replace hp1 := hp1.below hbA
      have hFm2 := hFm.below hbB
      have hgsz := hFm2.gb.size
      clear hx2 hbA hb1
      refine' Ords.step (i := 7) (by kernel_rfl) (by simp only [List.getElem?_toArray, List.getElem?_cons_succ, List.getElem?_cons_zero]; rfl) (fun K hK => ?_)
      (refine Knd.step_app1 (SlKo K2) rfl (.tmp 58) (.tmp 63) rfl y.heap.size (.slice A7 i c7) gs g1 x1.heap.size rfl hFm2.so rfl hrA (by have := hgl.out; omega) hgsz ?_; intro v7 w7 hO7 hg7 hat7; obtain ⟨A8, c8, rfl⟩ := hO7.form (SlKo K2); have hL7 : (gs ++ [g1]).length = i + 1 := (by rw [List.length_append, hgl.out]; rfl); rw [hL7] at hO7 hat7 ⊢; have hA7 := hFm.addS hbB hp1 (by omega) hO7 hg7 hat7 (by omega))
      refine hK.out _ _ ?_ (fun hHeld => ?_)
      ·exact hA7.1 3 _ rfl
      clear hK K
      (try simp only [Act.put, Lp0, Lp1, Lp2])
      obtain ⟨q7, hM7⟩ := hA7
      have hzf := hid hM7.z
      have fz7 : ∀ j, w7.frozen? ⟨gf, j, none⟩ = false := fun j => by have := hzf.out.fr j; simpa using this
      have l2 : w7.cell? ⟨gf, 3, none⟩ = some (.slice A7 i c7) := q7 3 _ rfl
      replace hM7 := hid hM7
      clear hFm hFm2 hO7 hg7 hat7 hrA hp1 hbB q7
      refine' Ords.take (i := 8) ?_ ?_ ?_ ?_ ?_ ?_ ?_ ?_ ?_
      rotate_left 2
      ·(simp only [List.getElem?_toArray, List.getElem?_cons_succ, List.getElem?_cons_zero]; rfl)
      ·kernel_rfl
      ·kernel_rfl
      ·kernel_rfl
      ·kernel_rfl
      ·exact fun _ _ _ h => h
      ·(refine Or.inl ⟨by rfl, ?_⟩; intro w_ hSw_; (try dsimp only at hSw_); go_simp; (try with_reducible rfl))
      ·assumption
      (try simp only [Act.put, Lp0, Lp1, Lp2])
      refine' Ords.last (by kernel_rfl) (by simp only [List.getElem?_toArray, List.getElem?_cons_succ, List.getElem?_cons_zero]; rfl) (by kernel_rfl) (fun K hK => ?_)
      go_simp
      (try go_wp2_with fail)
      refine hK.out _ _ ?_
      clear hK K
      (try simp only [Act.put, Lp0, Lp1, Lp2])
      go_wp2
      go_roundw
      case rel => exact ⟨i + 1, by go_num, by omega, _, _, by rw [List.replicate_succ']; exact hM7.out⟩
      case measure => simp [intOf]; omega
     ·obtain rfl : NV = i := by omega
      have hii : ¬ (NV : Int) < (NV : Int) := by omega
      have hgs := hFm.sp.len
      rw [List.length_replicate] at hgs
      replace hgs := hid hgs
      clear hmk2 hwK2
      have hS0 := hid (show frmK H V l 0 = some ⟨List.replicate NH (List.replicate K1 false), List.replicate NV (List.replicate K2 false), 0⟩ from by
       rw [← hK1, ← hK2, ← hNH.out, ← hNV.out]; rfl)
      go_wp2
      obtain ⟨w1, hw1⟩ : ∃ x, x = wr := ⟨_, rfl⟩
      subst hw1
      go_loopw [12, 11] (fun s12 s11 wr => ∃ i : Nat, s12 = .int .i64 i ∧ i ≤ n ∧ ∃ s : Fs, s11 = .int .i64 (s.n : Int) ∧ Hid (frmK H V l i = some s) ∧ Fm y gf K1 K2 (.slice A1 NH c1) (.slice A2 NV c2) ov sv go gs s.O s.S wr) (fun s12 _ _ => n - (intOf s12).toNat)
      case atStart => exact ⟨0, rfl, by omega, _, rfl, hS0, hFm⟩
      case round =>
       clear hFm hS0
       obtain ⟨i, rfl, hi, s, rfl, hS, hFm⟩ := hrel
       obtain ⟨A7, c7, rfl⟩ := hFm.oo.form (SlKo K1)
       obtain ⟨A8, c8, rfl⟩ := hFm.so.form (SlKo K2)
       rw [hgo.out, hgs.out] at hFm
       obtain ⟨⟨HBr, hrH, hrV⟩, -, -, -⟩ := hKp.out wr hFm.gb
       obtain ⟨⟨lO, rO⟩, ⟨lS, rS⟩, hsn⟩ := hF.out.ok i (by have := hn.out; omega) s hS.out
       rw [hNH.out] at lO rO rS
       rw [hNV.out] at lS rS rO
       rw [hK1] at rO
       rw [hK2] at rS
       by_cases hin : i < n
       ·have hii : (i : Int) < (n : Int) := by omega
        have hil : i < l.length := by have := hn.out; omega
        obtain ⟨b, o, hA3, hc⟩ := hM.out i hin wr HBr
        have hbw := hMb.out b o hA3 (by omega)
        have f0 : wr.cell? ⟨b, (o + i * 5), none⟩ = some (.bool l[i].v) := hc 0 _ rfl
        have f1 : wr.cell? ⟨b, (o + i * 5) + 1, none⟩ = some (.int .i64 l[i].a) := hc 1 _ rfl
        have f2 : wr.cell? ⟨b, (o + i * 5) + 2, none⟩ = some (.int .i64 l[i].t) := hc 2 _ rfl
        have f3 : wr.cell? ⟨b, (o + i * 5) + 3, none⟩ = some (.int .i64 l[i].f) := hc 3 _ rfl
        have f4 : wr.cell? ⟨b, (o + i * 5) + 4, none⟩ = some (.int .i64 l[i].o) := hc 4 _ rfl
        clear hc
        subst hA3
        have hst := hid (show frmK H V l (i + 1) = frmS H V s l[i] from by rw [frmK_succ hil, hS.out]; rfl)
        have hno := hid (hF.out.no (i + 1) (by have := hn.out; omega))
        have hph := hid (hF.out.ph i hil)
        have hpv := hid (hF.out.pv i hil)
        generalize l[i] = z at *
        obtain ⟨zv, za, zt, zf, zo⟩ := z
        dsimp only at f0 f1 f2 f3 f4 hph hpv
        have hnl : b ≠ gf := by omega
        cases zv
        ·as_aux_lemma =>
         have hpl := hph.out (by first | rfl | trivial)
         obtain ⟨P, hP⟩ : ∃ x, placP H za = x := ⟨_, rfl⟩
         rw [hP] at hpl
         have hPi : P < NH := by have := hNH.out; omega
         have hPli := hid fun (W : World) (hb : Below wr.heap.size wr W) => (show Calls Tryz.prog 66 #[.slice A1 NH c1, .int .i64 za] W (RetI W (P : Int)) from by
          have := RPlc_g H A1 c1 za (hrH.below hb) (by rw [hP]; exact hpl)
          rw [hP, hNH.out] at this; exact this)
         have hPg : P < go.length := by have := hgo.out; omega
         obtain ⟨cv, hcv⟩ : ∃ x, s.O.getD P [] = x := ⟨_, rfl⟩
         have hcl : cv.length = K1 := by rw [← hcv]; exact rO P hPi
         have hcg : s.O[P]'(by omega) = cv := by rw [← hcv]; simp [List.getD, show P < s.O.length by omega]
         obtain ⟨gP, hgP⟩ : ∃ x, go[P] = x := ⟨_, rfl⟩
         have hpx : PxA wr gP cv := by rw [← hgP, ← hcg]; exact hFm.op.px P hPg (by omega)
         have hmem : gP ∈ go ++ gs := by rw [← hgP]; exact List.mem_append_left _ (List.getElem_mem hPg)
         have hgy2 := hFm.gt _ hmem
         have hno1 := hFm.no _ hmem
         obtain ⟨bo, oo, hA7, hco⟩ := (hFm.oo.rd2 (SlKo K1)).1.at_ (j := P) hPg
         have r0 : wr.cell? ⟨bo, oo + P * 1, none⟩ = some (.slice (some ⟨gP, 0, none⟩) K1 K1) := by rw [← hgP]; exact hco 0 _ rfl
         rw [Nat.mul_one] at r0
         have hbP : b ≠ gP := by omega
         have hfP : gf ≠ gP := by omega
         have hbo : bo ≠ gP := fun e => hno1 (by rw [hA7, e]; rfl)
         have cO : wr.cell? ⟨gf, 2, none⟩ = some (.slice A7 NH c7) := hFm.r 2 _ rfl
         obtain ⟨q1, hq1⟩ : ∃ x, covE ⟨false, za, zt, zf, zo⟩ V cv = x := ⟨_, rfl⟩
         have hCov := hid fun (W : World) (hb : Below wr.heap.size wr W) => (show Calls Tryz.prog 65 #[.agg #[.bool (Ru.mk false za zt zf zo).v, .int .i64 (Ru.mk false za zt zf zo).a, .int .i64 (Ru.mk false za zt zf zo).t, .int .i64 (Ru.mk false za zt zf zo).f, .int .i64 (Ru.mk false za zt zf zo).o], .slice A2 NV c2, .slice (some ⟨gP, 0, none⟩) K1 K1] W (RetCv W gP q1) from by
          have := RCov_g ⟨false, za, zt, zf, zo⟩ V A2 c2 cv gP K1 K1 (hrV.below hb) hcl (by have := hNV.out; omega) (hpx.below hb) hF.out.vb (by have := hNV.out; omega)
          rw [hNV.out, hq1] at this
          exact this)
         have hqn := hid fun (h : q1 = none) => (show q = none from hno.out (by
          rw [hst.out]
          unfold frmS
          dsimp only
          rw [if_neg (by simp), hP, hcv, hq1, h]; rfl))
         have hqs := hid fun (d : List Bool) (h : q1 = some d) => (show frmK H V l (i + 1) = some (Fs.mk (s.O.set P d) s.S (s.n + if outP H za then 1 else 0)) from by
          rw [hst.out]
          unfold frmS
          dsimp only
          rw [if_neg (by simp), hP, hcv, hq1, h]; rfl)
         have hsub := hid hA7
         subst hA7
         clear hst hno hco hph hpv
         go_upto_region 20 with fail
         refine wp_region_held_drew (S := fun w' => (w'.cell? ⟨b, o + i * 5, none⟩ = some (.bool false) ∧ w'.cell? ⟨b, o + i * 5 + 1, none⟩ = some (.int .i64 za) ∧ w'.cell? ⟨b, o + i * 5 + 2, none⟩ = some (.int .i64 zt) ∧ w'.cell? ⟨b, o + i * 5 + 3, none⟩ = some (.int .i64 zf) ∧ w'.cell? ⟨b, o + i * 5 + 4, none⟩ = some (.int .i64 zo)) ∧ w'.cell? ⟨gf, 2, none⟩ = some (.slice (some ⟨bo, oo, none⟩) NH c7) ∧ w'.cell? ⟨bo, oo + P, none⟩ = some (.slice (some ⟨gP, 0, none⟩) K1 K1)) (by kernel_rfl) ?_ (fun hHeld => ?_)
         ·exact ⟨⟨f0, f1, f2, f3, f4⟩, cO, r0⟩
         have hdb : Below wr.heap.size wr wr.drew := (Below.refl _ _).drew
         generalize wr.drew = xd at hdb hHeld ⊢
         refine' tkA (i := 0) rfl (by decide +kernel) (Or.inl ⟨by rfl, ?_⟩) (by assumption) (fun _ _ _ h => h) ?_
         rotate_left 1
         ·(intro w_ hSw_; (try dsimp only at hSw_); go_simp; (try with_reducible rfl))
         (try simp only [Act.put, Lp0, Lp1, Lp2])
         refine' tkA (i := 1) rfl (by decide +kernel) (Or.inl ⟨by rfl, ?_⟩) (by assumption) (fun _ _ _ h => h) ?_
         rotate_left 1
         ·(intro w_ hSw_; (try dsimp only at hSw_); go_simp; (try with_reducible rfl))
         (try simp only [Act.put, Lp0, Lp1, Lp2])
         refine' tkA (i := 2) rfl (by decide +kernel) (Or.inl ⟨by rfl, ?_⟩) (by assumption) (fun _ _ _ h => h) ?_
         rotate_left 1
         ·(intro w_ hSw_; (try dsimp only at hSw_); go_simp; (try with_reducible rfl))
         (try simp only [Act.put, Lp0, Lp1, Lp2])
         refine' tkA (i := 3) rfl (by decide +kernel) (Or.inl ⟨by rfl, ?_⟩) (by assumption) (fun _ _ _ h => h) ?_
         rotate_left 1
         ·(intro w_ hSw_; (try dsimp only at hSw_); go_simp; (try with_reducible rfl))
         (try simp only [Act.put, Lp0, Lp1, Lp2])
         refine' tkA (i := 4) rfl (by decide +kernel) (Or.inl ⟨by rfl, ?_⟩) (by assumption) (fun _ _ _ h => h) ?_
         rotate_left 1
         ·(intro w_ hSw_; (try dsimp only at hSw_); go_simp; (try with_reducible rfl))
         (try simp only [Act.put, Lp0, Lp1, Lp2])
         refine' tkA (i := 5) rfl (by decide +kernel) (Or.inl ⟨by rfl, ?_⟩) (by assumption) (fun _ _ _ h => h) ?_
         rotate_left 1
         ·(intro w_ hSw_; (try dsimp only at hSw_); go_simp; (try with_reducible rfl))
         (try simp only [Act.put, Lp0, Lp1, Lp2])
         refine' tkA (i := 6) rfl (by decide +kernel) (Or.inl ⟨by rfl, ?_⟩) (by assumption) (fun _ _ _ h => h) ?_
         rotate_left 1
         ·(intro w_ hSw_; (try dsimp only at hSw_); go_simp; (try with_reducible rfl))
         (try simp only [Act.put, Lp0, Lp1, Lp2])
         refine' tkA (i := 7) rfl (by decide +kernel) (Or.inl ⟨by rfl, ?_⟩) (by assumption) (fun _ _ _ h => h) ?_
         rotate_left 1
         ·(intro w_ hSw_; (try dsimp only at hSw_); go_simp; (try with_reducible rfl))
         (try simp only [Act.put, Lp0, Lp1, Lp2])
         refine' tkA (i := 8) rfl (by decide +kernel) (Or.inl ⟨by rfl, ?_⟩) (by assumption) (fun _ _ _ h => h) ?_
         rotate_left 1
         ·(intro w_ hSw_; (try dsimp only at hSw_); go_simp; (try with_reducible rfl))
         (try simp only [Act.put, Lp0, Lp1, Lp2])
         refine' tkA (i := 9) rfl (by decide +kernel) (Or.inl ⟨by rfl, ?_⟩) (by assumption) (fun _ _ _ h => h) ?_
         rotate_left 1
         ·(intro w_ hSw_; (try dsimp only at hSw_); go_simp; (try with_reducible rfl))
         (try simp only [Act.put, Lp0, Lp1, Lp2])
         refine' tkA (i := 10) rfl (by decide +kernel) (Or.inl ⟨by rfl, ?_⟩) (by assumption) (fun _ _ _ h => h) ?_
         rotate_left 1
         ·(intro w_ hSw_; (try dsimp only at hSw_); go_simp; (try with_reducible rfl))
         (try simp only [Act.put, Lp0, Lp1, Lp2])
         refine' tkA (i := 11) rfl (by decide +kernel) (Or.inl ⟨by rfl, ?_⟩) (by assumption) (fun _ _ _ h => h) ?_
         rotate_left 1
         ·(intro w_ hSw_; (try dsimp only at hSw_); go_simp; (try with_reducible rfl))
         (try simp only [Act.put, Lp0, Lp1, Lp2])
         refine' tkA (i := 12) rfl (by decide +kernel) (Or.inl ⟨by rfl, ?_⟩) (by assumption) (fun _ _ _ h => h) ?_
         rotate_left 1
         ·(intro w_ hSw_; (try dsimp only at hSw_); go_simp; (try with_reducible rfl))
         (try simp only [Act.put, Lp0, Lp1, Lp2])
         refine' tkA (i := 13) rfl (by decide +kernel) (Or.inl ⟨by rfl, ?_⟩) (by assumption) (fun _ _ _ h => h) ?_
         rotate_left 1
         ·(intro w_ hSw_; (try dsimp only at hSw_); go_simp; (try with_reducible rfl))
         (try simp only [Act.put, Lp0, Lp1, Lp2])
         refine' tkA (i := 14) rfl (by decide +kernel) (Or.inl ⟨by rfl, ?_⟩) (by assumption) (fun _ _ _ h => h) ?_
         rotate_left 1
         ·(intro w_ hSw_; (try dsimp only at hSw_); go_simp; (try with_reducible rfl))
         (try simp only [Act.put, Lp0, Lp1, Lp2])
         refine' tkA (i := 15) rfl (by decide +kernel) (Or.inl ⟨by rfl, ?_⟩) (by assumption) (fun _ _ _ h => h) ?_
         rotate_left 1
         ·(intro w_ hSw_; (try dsimp only at hSw_); go_simp; (try with_reducible rfl))
         (try simp only [Act.put, Lp0, Lp1, Lp2])
         refine' tkA (i := 16) rfl (by decide +kernel) (Or.inl ⟨by rfl, ?_⟩) (by assumption) (fun _ _ _ h => h) ?_
         rotate_left 1
         ·(intro w_ hSw_; (try dsimp only at hSw_); go_simp; (try with_reducible rfl))
         (try simp only [Act.put, Lp0, Lp1, Lp2])
         refine' tkA (i := 17) rfl (by decide +kernel) (Or.inl ⟨by rfl, ?_⟩) (by assumption) (fun _ _ _ h => h) ?_
         rotate_left 1
         ·(intro w_ hSw_; (try dsimp only at hSw_); go_simp; (try with_reducible rfl))
         (try simp only [Act.put, Lp0, Lp1, Lp2])
         refine' tkA (i := 18) rfl (by decide +kernel) (Or.inl ⟨by rfl, ?_⟩) (by assumption) (fun _ _ _ h => h) ?_
         rotate_left 1
         ·(intro w_ hSw_; (try dsimp only at hSw_); go_simp; (try with_reducible rfl))
         (try simp only [Act.put, Lp0, Lp1, Lp2])
         refine' tkA (i := 19) rfl (by decide +kernel) (Or.inl ⟨by rfl, ?_⟩) (by assumption) (fun _ _ _ h => h) ?_
         rotate_left 1
         ·(intro w_ hSw_; (try dsimp only at hSw_); go_simp; (try with_reducible rfl))
         (try simp only [Act.put, Lp0, Lp1, Lp2])
         refine brA (i := 20) (by decide +kernel) rfl (fun K hK => ?_)
         go_simp
         (refine (hPli.out xd hdb).mono ?_; rintro e x1 ⟨rfl, hv1⟩)
         (try go_wp2_with fail)
         refine hK.out _ _ ?_ (fun hHeld => ?_)
         ·exact ⟨⟨keep_cell hv1 hHeld.1.1, keep_cell hv1 hHeld.1.2.1, keep_cell hv1 hHeld.1.2.2.1, keep_cell hv1 hHeld.1.2.2.2.1, keep_cell hv1 hHeld.1.2.2.2.2⟩, keep_cell hv1 hHeld.2.1, keep_cell hv1 hHeld.2.2⟩
         clear hK K
         (try simp only [Act.put, Lp0, Lp1, Lp2])
         have hb1 := bel_step hdb hv1
         refine' tkA (i := 21) rfl (by decide +kernel) (Or.inl ⟨by rfl, ?_⟩) (by assumption) (fun _ _ _ h => h) ?_
         rotate_left 1
         ·(intro w_ hSw_; (try dsimp only at hSw_); go_simp; (try with_reducible rfl))
         (try simp only [Act.put, Lp0, Lp1, Lp2])
         refine' tkA (i := 22) rfl (by decide +kernel) (Or.inl ⟨by rfl, ?_⟩) (by assumption) (fun _ _ _ h => h) ?_
         rotate_left 1
         ·(intro w_ hSw_; (try dsimp only at hSw_); go_simp; (try with_reducible rfl))
         (try simp only [Act.put, Lp0, Lp1, Lp2])
         refine brA (i := 23) (by decide +kernel) rfl (fun K hK => ?_)
         go_simp
         refine (hCov.out x1 hb1).mono ?_
         rintro e x2 (⟨hqc, rfl, hgb2⟩ | ⟨d, hqc, rfl, hPx⟩)
         ·(try go_wp2_with fail)
          refine hK.out _ _ ?_ (fun hHeld => ?_)
          ·exact ⟨⟨hgb2.cell hHeld.1.1 (fun e => hbP (Option.some.inj e)), hgb2.cell hHeld.1.2.1 (fun e => hbP (Option.some.inj e)), hgb2.cell hHeld.1.2.2.1 (fun e => hbP (Option.some.inj e)), hgb2.cell hHeld.1.2.2.2.1 (fun e => hbP (Option.some.inj e)), hgb2.cell hHeld.1.2.2.2.2 (fun e => hbP (Option.some.inj e))⟩, hgb2.cell hHeld.2.1 (fun e => hfP (Option.some.inj e)), hgb2.cell hHeld.2.2 (fun e => hbo (Option.some.inj e))⟩
          clear hK K
          (try simp only [Act.put, Lp0, Lp1, Lp2])
          have hgb9 := (gb_below hb1 (row := some gP)).trans hgb2
          replace hqn := hqn.out hqc
          clear hgb2 hb1 hv1 hdb hqs hCov hPli
          refine' tkA (i := 24) rfl (by decide +kernel) (Or.inl ⟨by rfl, ?_⟩) (by assumption) (fun _ _ _ h => h) ?_
          rotate_left 1
          ·(intro w_ hSw_; (try dsimp only at hSw_); go_simp; (try with_reducible rfl))
          (try simp only [Act.put, Lp0, Lp1, Lp2])
          refine' tkA (i := 25) rfl (by decide +kernel) (Or.inl ⟨by rfl, ?_⟩) (by assumption) (fun _ _ _ h => h) ?_
          rotate_left 1
          ·(intro w_ hSw_; (try dsimp only at hSw_); go_simp; (try with_reducible rfl))
          (try simp only [Act.put, Lp0, Lp1, Lp2])
          refine' tkA (i := 26) rfl (by decide +kernel) (Or.inl ⟨by rfl, ?_⟩) (by assumption) (fun _ _ _ h => h) ?_
          rotate_left 1
          ·(intro w_ hSw_; (try dsimp only at hSw_); go_simp; (try with_reducible rfl))
          (try simp only [Act.put, Lp0, Lp1, Lp2])
          refine tkA (i := 27) (v := undef) rfl (by decide +kernel) (Or.inr ⟨by rfl, rfl⟩) (by assumption) (fun _ _ _ h => h) ?_
          (try simp only [Act.put, Lp0, Lp1, Lp2])
          refine tkA (i := 28) (v := undef) rfl (by decide +kernel) (Or.inr ⟨by rfl, rfl⟩) (by assumption) (fun _ _ _ h => h) ?_
          (try simp only [Act.put, Lp0, Lp1, Lp2])
          refine tkA (i := 29) (v := undef) rfl (by decide +kernel) (Or.inr ⟨by rfl, rfl⟩) (by assumption) (fun _ _ _ h => h) ?_
          (try simp only [Act.put, Lp0, Lp1, Lp2])
          refine tkA (i := 30) (v := undef) rfl (by decide +kernel) (Or.inr ⟨by rfl, rfl⟩) (by assumption) (fun _ _ _ h => h) ?_
          (try simp only [Act.put, Lp0, Lp1, Lp2])
          refine tkA (i := 31) (v := undef) rfl (by decide +kernel) (Or.inr ⟨by rfl, rfl⟩) (by assumption) (fun _ _ _ h => h) ?_
          (try simp only [Act.put, Lp0, Lp1, Lp2])
          refine tkA (i := 32) (v := undef) rfl (by decide +kernel) (Or.inr ⟨by rfl, rfl⟩) (by assumption) (fun _ _ _ h => h) ?_
          (try simp only [Act.put, Lp0, Lp1, Lp2])
          refine tkA (i := 33) (v := undef) rfl (by decide +kernel) (Or.inr ⟨by rfl, rfl⟩) (by assumption) (fun _ _ _ h => h) ?_
          (try simp only [Act.put, Lp0, Lp1, Lp2])
          refine tkA (i := 34) (v := undef) rfl (by decide +kernel) (Or.inr ⟨by rfl, rfl⟩) (by assumption) (fun _ _ _ h => h) ?_
          (try simp only [Act.put, Lp0, Lp1, Lp2])
          refine tkA (i := 35) (v := undef) rfl (by decide +kernel) (Or.inr ⟨by rfl, rfl⟩) (by assumption) (fun _ _ _ h => h) ?_
          (try simp only [Act.put, Lp0, Lp1, Lp2])
          refine tkA (i := 36) (v := undef) rfl (by decide +kernel) (Or.inr ⟨by rfl, rfl⟩) (by assumption) (fun _ _ _ h => h) ?_
          (try simp only [Act.put, Lp0, Lp1, Lp2])
          refine tkA (i := 37) (v := undef) rfl (by decide +kernel) (Or.inr ⟨by rfl, rfl⟩) (by assumption) (fun _ _ _ h => h) ?_
          (try simp only [Act.put, Lp0, Lp1, Lp2])
          refine tkA (i := 38) (v := undef) rfl (by decide +kernel) (Or.inr ⟨by rfl, rfl⟩) (by assumption) (fun _ _ _ h => h) ?_
          (try simp only [Act.put, Lp0, Lp1, Lp2])
          refine tkA (i := 39) (v := undef) rfl (by decide +kernel) (Or.inr ⟨by rfl, rfl⟩) (by assumption) (fun _ _ _ h => h) ?_
          (try simp only [Act.put, Lp0, Lp1, Lp2])
          refine tkA (i := 40) (v := undef) rfl (by decide +kernel) (Or.inr ⟨by rfl, rfl⟩) (by assumption) (fun _ _ _ h => h) ?_
          (try simp only [Act.put, Lp0, Lp1, Lp2])
          refine tkA (i := 41) (v := undef) rfl (by decide +kernel) (Or.inr ⟨by rfl, rfl⟩) (by assumption) (fun _ _ _ h => h) ?_
          (try simp only [Act.put, Lp0, Lp1, Lp2])
          refine tkA (i := 42) (v := undef) rfl (by decide +kernel) (Or.inr ⟨by rfl, rfl⟩) (by assumption) (fun _ _ _ h => h) ?_
          (try simp only [Act.put, Lp0, Lp1, Lp2])
          refine tkA (i := 43) (v := undef) rfl (by decide +kernel) (Or.inr ⟨by rfl, rfl⟩) (by assumption) (fun _ _ _ h => h) ?_
          (try simp only [Act.put, Lp0, Lp1, Lp2])
          refine tkA (i := 44) (v := undef) rfl (by decide +kernel) (Or.inr ⟨by rfl, rfl⟩) (by assumption) (fun _ _ _ h => h) ?_
          (try simp only [Act.put, Lp0, Lp1, Lp2])
          refine tkA (i := 45) (v := undef) rfl (by decide +kernel) (Or.inr ⟨by rfl, rfl⟩) (by assumption) (fun _ _ _ h => h) ?_
          (try simp only [Act.put, Lp0, Lp1, Lp2])
          refine tkA (i := 46) (v := undef) rfl (by decide +kernel) (Or.inr ⟨by rfl, rfl⟩) (by assumption) (fun _ _ _ h => h) ?_
          (try simp only [Act.put, Lp0, Lp1, Lp2])
          refine tkA (i := 47) (v := undef) rfl (by decide +kernel) (Or.inr ⟨by rfl, rfl⟩) (by assumption) (fun _ _ _ h => h) ?_
          (try simp only [Act.put, Lp0, Lp1, Lp2])
          refine tkA (i := 48) (v := undef) rfl (by decide +kernel) (Or.inr ⟨by rfl, rfl⟩) (by assumption) (fun _ _ _ h => h) ?_
          (try simp only [Act.put, Lp0, Lp1, Lp2])
          refine tkA (i := 49) (v := undef) rfl (by decide +kernel) (Or.inr ⟨by rfl, rfl⟩) (by assumption) (fun _ _ _ h => h) ?_
          (try simp only [Act.put, Lp0, Lp1, Lp2])
          refine tkA (i := 50) (v := undef) rfl (by decide +kernel) (Or.inr ⟨by rfl, rfl⟩) (by assumption) (fun _ _ _ h => h) ?_
          (try simp only [Act.put, Lp0, Lp1, Lp2])
          refine tkA (i := 51) (v := undef) rfl (by decide +kernel) (Or.inr ⟨by rfl, rfl⟩) (by assumption) (fun _ _ _ h => h) ?_
          (try simp only [Act.put, Lp0, Lp1, Lp2])
          refine' tkA (i := 52) rfl (by decide +kernel) (Or.inl ⟨by rfl, ?_⟩) (by assumption) (fun _ _ _ h => h) ?_
          rotate_left 1
          ·(intro w_ hSw_; (try dsimp only at hSw_); go_simp; (try with_reducible rfl))
          (try simp only [Act.put, Lp0, Lp1, Lp2])
          refine wpAnyH_done (by kernel_rfl) ?_ _
          -- the line does not fit
          obtain ⟨⟨q0, q1⟩, q2⟩ := hFm.kp hmem hgb9
          obtain ⟨⟨HB9, -, -⟩, ⟨k0, k1⟩, ⟨k2, k3⟩, z9, -⟩ := hKp.out x2 q2
          have m0 : x2.cell? ⟨gf, 0, none⟩ = some (.slice A1 NH c1) := q0 0 _ rfl
          have m1 : x2.cell? ⟨gf, 1, none⟩ = some (.slice A2 NV c2) := q0 1 _ rfl
          have m2 : x2.cell? ⟨gf, 2, none⟩ = some (.slice (some ⟨bo, oo, none⟩) NH c7) := q0 2 _ rfl
          have m3 : x2.cell? ⟨gf, 3, none⟩ = some (.slice A8 NV c8) := q0 3 _ rfl
          have fk := z9.fr
          have ltk := cell_lt k0
          have HBf := hid (below_set (below_set (below_set (below_set HB9 (Nat.le_refl _) 0 (.slice A1 NH c1)) (Nat.le_refl _) 1 (.slice A2 NV c2)) (Nat.le_refl _) 2 (.slice (some ⟨bo, oo, none⟩) NH c7)) (Nat.le_refl _) 3 (.slice A8 NV c8))
          replace hqn := hid hqn
          clear hFm hKp q0 q1 q2 HB9 z9 hgb9
          go_wp2
          refine bodyPost_ret (v := .tuple #[.agg #[.slice A1 NH c1, .slice A2 NV c2, .slice (some ⟨bo, oo, none⟩) NH c7, .slice A8 NV c8], .bool false]) ?_ rfl ?_
          ·simp [results, Tryz.results41, go_sem, k0, k1, k2, k3]
          ·exact hfin.out _ _ _ _ _ _ _ _ _ _ _ _ _ _ (by rw [hqn.out]; rfl) (fun s h => by rw [hqn.out] at h; cases h) HBf.out
         ·(try go_wp2_with fail)
          refine hK.out _ _ ?_ (fun hHeld => ?_)
          ·exact ⟨⟨hPx.gb.cell hHeld.1.1 (fun e => hbP (Option.some.inj e)), hPx.gb.cell hHeld.1.2.1 (fun e => hbP (Option.some.inj e)), hPx.gb.cell hHeld.1.2.2.1 (fun e => hbP (Option.some.inj e)), hPx.gb.cell hHeld.1.2.2.2.1 (fun e => hbP (Option.some.inj e)), hPx.gb.cell hHeld.1.2.2.2.2 (fun e => hbP (Option.some.inj e))⟩, hPx.gb.cell hHeld.2.1 (fun e => hfP (Option.some.inj e)), hPx.gb.cell hHeld.2.2 (fun e => hbo (Option.some.inj e))⟩
          clear hK K
          (try simp only [Act.put, Lp0, Lp1, Lp2])
          have hPx9 : PxR wr gP d x2 := PxR.step hb1 hPx
          have hS9 := hid (hqs.out d hqc)
          clear hPx hb1 hv1 hdb hqs hCov hPli hqn
          refine' tkA (i := 24) rfl (by decide +kernel) (Or.inl ⟨by rfl, ?_⟩) (by assumption) (fun _ _ _ h => h) ?_
          rotate_left 1
          ·(intro w_ hSw_; (try dsimp only at hSw_); go_simp; (try with_reducible rfl))
          (try simp only [Act.put, Lp0, Lp1, Lp2])
          refine' tkA (i := 25) rfl (by decide +kernel) (Or.inl ⟨by rfl, ?_⟩) (by assumption) (fun _ _ _ h => h) ?_
          rotate_left 1
          ·(intro w_ hSw_; (try dsimp only at hSw_); go_simp; (try with_reducible rfl))
          (try simp only [Act.put, Lp0, Lp1, Lp2])
          refine' tkA (i := 26) rfl (by decide +kernel) (Or.inl ⟨by rfl, ?_⟩) (by assumption) (fun _ _ _ h => h) ?_
          rotate_left 1
          ·(intro w_ hSw_; (try dsimp only at hSw_); go_simp; (try with_reducible rfl))
          (try simp only [Act.put, Lp0, Lp1, Lp2])
          refine' tkA (i := 27) rfl (by decide +kernel) (Or.inl ⟨by rfl, ?_⟩) (by assumption) (fun _ _ _ h => h) ?_
          rotate_left 1
          ·(intro w_ hSw_; (try dsimp only at hSw_); go_simp; (try with_reducible rfl))
          (try simp only [Act.put, Lp0, Lp1, Lp2])
          refine' tkA (i := 28) rfl (by decide +kernel) (Or.inl ⟨by rfl, ?_⟩) (by assumption) (fun _ _ _ h => h) ?_
          rotate_left 1
          ·(intro w_ hSw_; (try dsimp only at hSw_); go_simp; (try with_reducible rfl))
          (try simp only [Act.put, Lp0, Lp1, Lp2])
          refine' tkA (i := 29) rfl (by decide +kernel) (Or.inl ⟨by rfl, ?_⟩) (by assumption) (fun _ _ _ h => h) ?_
          rotate_left 1
          ·(intro w_ hSw_; (try dsimp only at hSw_); go_simp; (try with_reducible rfl))
          (try simp only [Act.put, Lp0, Lp1, Lp2])
          refine' tkA (i := 30) rfl (by decide +kernel) (Or.inl ⟨by rfl, ?_⟩) (by assumption) (fun _ _ _ h => h) ?_
          rotate_left 1
          ·(intro w_ hSw_; (try dsimp only at hSw_); go_simp; (try with_reducible rfl))
          (try simp only [Act.put, Lp0, Lp1, Lp2])
          refine' tkA (i := 31) rfl (by decide +kernel) (Or.inl ⟨by rfl, ?_⟩) (by assumption) (fun _ _ _ h => h) ?_
          rotate_left 1
          ·(intro w_ hSw_; (try dsimp only at hSw_); go_simp; (try with_reducible rfl))
          (try simp only [Act.put, Lp0, Lp1, Lp2])
          refine' tkA (i := 32) rfl (by decide +kernel) (Or.inl ⟨by rfl, ?_⟩) (by assumption) (fun _ _ _ h => h) ?_
          rotate_left 1
          ·(intro w_ hSw_; (try dsimp only at hSw_); go_simp; (try with_reducible rfl))
          (try simp only [Act.put, Lp0, Lp1, Lp2])
          refine tkA (i := 33) (v := undef) rfl (by decide +kernel) (Or.inr ⟨by rfl, rfl⟩) (by assumption) (fun _ _ _ h => h) ?_
          (try simp only [Act.put, Lp0, Lp1, Lp2])
          refine tkA (i := 34) (v := undef) rfl (by decide +kernel) (Or.inr ⟨by rfl, rfl⟩) (by assumption) (fun _ _ _ h => h) ?_
          (try simp only [Act.put, Lp0, Lp1, Lp2])
          refine tkA (i := 35) (v := undef) rfl (by decide +kernel) (Or.inr ⟨by rfl, rfl⟩) (by assumption) (fun _ _ _ h => h) ?_
          (try simp only [Act.put, Lp0, Lp1, Lp2])
          refine tkA (i := 36) (v := undef) rfl (by decide +kernel) (Or.inr ⟨by rfl, rfl⟩) (by assumption) (fun _ _ _ h => h) ?_
          (try simp only [Act.put, Lp0, Lp1, Lp2])
          refine tkA (i := 37) (v := undef) rfl (by decide +kernel) (Or.inr ⟨by rfl, rfl⟩) (by assumption) (fun _ _ _ h => h) ?_
          (try simp only [Act.put, Lp0, Lp1, Lp2])
          refine tkA (i := 38) (v := undef) rfl (by decide +kernel) (Or.inr ⟨by rfl, rfl⟩) (by assumption) (fun _ _ _ h => h) ?_
          (try simp only [Act.put, Lp0, Lp1, Lp2])
          refine tkA (i := 39) (v := undef) rfl (by decide +kernel) (Or.inr ⟨by rfl, rfl⟩) (by assumption) (fun _ _ _ h => h) ?_
          (try simp only [Act.put, Lp0, Lp1, Lp2])
          refine tkA (i := 40) (v := undef) rfl (by decide +kernel) (Or.inr ⟨by rfl, rfl⟩) (by assumption) (fun _ _ _ h => h) ?_
          (try simp only [Act.put, Lp0, Lp1, Lp2])
          refine tkA (i := 41) (v := undef) rfl (by decide +kernel) (Or.inr ⟨by rfl, rfl⟩) (by assumption) (fun _ _ _ h => h) ?_
          (try simp only [Act.put, Lp0, Lp1, Lp2])
          refine tkA (i := 42) (v := undef) rfl (by decide +kernel) (Or.inr ⟨by rfl, rfl⟩) (by assumption) (fun _ _ _ h => h) ?_
          (try simp only [Act.put, Lp0, Lp1, Lp2])
          refine tkA (i := 43) (v := undef) rfl (by decide +kernel) (Or.inr ⟨by rfl, rfl⟩) (by assumption) (fun _ _ _ h => h) ?_
          (try simp only [Act.put, Lp0, Lp1, Lp2])
          refine tkA (i := 44) (v := undef) rfl (by decide +kernel) (Or.inr ⟨by rfl, rfl⟩) (by assumption) (fun _ _ _ h => h) ?_
          (try simp only [Act.put, Lp0, Lp1, Lp2])
          refine tkA (i := 45) (v := undef) rfl (by decide +kernel) (Or.inr ⟨by rfl, rfl⟩) (by assumption) (fun _ _ _ h => h) ?_
          (try simp only [Act.put, Lp0, Lp1, Lp2])
          refine tkA (i := 46) (v := undef) rfl (by decide +kernel) (Or.inr ⟨by rfl, rfl⟩) (by assumption) (fun _ _ _ h => h) ?_
          (try simp only [Act.put, Lp0, Lp1, Lp2])
          refine tkA (i := 47) (v := undef) rfl (by decide +kernel) (Or.inr ⟨by rfl, rfl⟩) (by assumption) (fun _ _ _ h => h) ?_
          (try simp only [Act.put, Lp0, Lp1, Lp2])
          refine tkA (i := 48) (v := undef) rfl (by decide +kernel) (Or.inr ⟨by rfl, rfl⟩) (by assumption) (fun _ _ _ h => h) ?_
          (try simp only [Act.put, Lp0, Lp1, Lp2])
          refine tkA (i := 49) (v := undef) rfl (by decide +kernel) (Or.inr ⟨by rfl, rfl⟩) (by assumption) (fun _ _ _ h => h) ?_
          (try simp only [Act.put, Lp0, Lp1, Lp2])
          refine tkA (i := 50) (v := undef) rfl (by decide +kernel) (Or.inr ⟨by rfl, rfl⟩) (by assumption) (fun _ _ _ h => h) ?_
          (try simp only [Act.put, Lp0, Lp1, Lp2])
          refine' tkA (i := 51) rfl (by decide +kernel) (Or.inl ⟨by rfl, ?_⟩) (by assumption) (fun _ _ _ h => h) ?_
          rotate_left 1
          ·(intro w_ hSw_; (try dsimp only at hSw_); go_simp; (try with_reducible rfl))
          (try simp only [Act.put, Lp0, Lp1, Lp2])
          refine' tkA (i := 52) rfl (by decide +kernel) (Or.inl ⟨by rfl, ?_⟩) (by assumption) (fun _ _ _ h => h) ?_
          rotate_left 1
          ·(intro w_ hSw_; (try dsimp only at hSw_); go_simp; (try with_reducible rfl))
          (try simp only [Act.put, Lp0, Lp1, Lp2])
          refine wpAnyH_done (by kernel_rfl) ?_ _
          have hFm2 := hFm.putO (k := P) (d := d) hPg (by rw [hgP]; exact hPx9)
          have hsw : IntKind.i64.wrap ((s.n : Int) + 1) = (s.n : Int) + 1 := by rw [IntKind.wrap_i64]; omega
          clear hFm hPx9 hmem hpx
          obtain ⟨⟨f0, f1, f2, f3, f4⟩, -, -⟩ := hHeld
          obtain ⟨⟨HB2, hrH2, hrV2⟩, -, -, -⟩ := hKp.out x2 hFm2.gb
          have hN0 : 0 < NH := by omega
          have hN0i : (0 : Int) < (NH : Int) := by omega
          have hKi : (K2 : Int) < (NH : Int) := by omega
          have hl0 : 0 < (H).length := by have := hNH.out; omega
          have hl9 : K2 < (H).length := by have := hNH.out; omega
          obtain ⟨bh, oh, hAh, hc0⟩ := (hrH2).at_ (j := 0) hl0
          obtain ⟨bi, oi, hAi, hc9⟩ := (hrH2).at_ (j := K2) hl9
          obtain ⟨rfl, rfl⟩ : bh = bi ∧ oh = oi := by rw [hAh] at hAi; injection hAi with h; injection h with h1 h2 _; exact ⟨h1, h2⟩
          have hq0 : x2.cell? ⟨bh, oh + 0 * 2, none⟩ = some (.int .i64 ((H)[0]'hl0).1) := hc0 0 _ rfl
          have hq9 : x2.cell? ⟨bh, oh + K2 * 2, none⟩ = some (.int .i64 ((H)[K2]'hl9).1) := hc9 0 _ rfl
          rw [Nat.zero_mul, Nat.add_zero] at hq0
          have hout : outP H za = decide (za = ((H)[0]'hl0).1 ∨ za = ((H)[K2]'hl9).1) := by
           unfold outP
           rw [show (H).length - 1 = K2 by have := hNH.out; omega]
           simp [List.getD, hl0, hl9]
          rw [hout] at hS9
          generalize ((H)[0]'hl0).1 = y0 at *
          generalize ((H)[K2]'hl9).1 = y9 at *
          clear hc0 hc9 hAi hout hKp hfin hM hF HB2 hrH2 hrV2 hrH hrV
          subst hAh
          by_cases g1 : za = y0
          ·have g1b : (za == y0) = true := beq_iff_eq.2 g1
           have hS10 := hid (show frmK H V l (i + 1) = some (Fs.mk (s.O.set P d) s.S (s.n + 1)) from by have := hS9.out; rw [decide_eq_true (Or.inl g1)] at this; exact this)
           clear g1 hS9
           go_upto_region 22 with fail
           (try simp only [List.append])
           go_quiet (fail)
           have hv_ : Below x2.heap.size x2 (x2.drewN nq) := below_drewN (Below.refl _ _) _
           generalize x2.drewN nq = x3 at hv_ ⊢
           have hFm3 := hid (hFm2.below hv_)
           clear hv_ hFm2 hq0 hq9 f0 f1 f2 f3 f4
           go_wp2
           go_roundw
           case rel => exact ⟨i + 1, by go_num, by omega, (Fs.mk (s.O.set P d) s.S (s.n + 1)), by first | rfl | (simp; omega) | go_num, hS10, by rw [hgo.out, hgs.out]; exact hFm3.out⟩
           case measure => simp [intOf]; omega
          ·have g1b : (za == y0) = false := beq_eq_false_iff_ne.2 g1
           by_cases g2 : za = y9
           ·have g2b : (za == y9) = true := beq_iff_eq.2 g2
            have hS10 := hid (show frmK H V l (i + 1) = some (Fs.mk (s.O.set P d) s.S (s.n + 1)) from by have := hS9.out; rw [decide_eq_true (Or.inr g2)] at this; exact this)
            clear g1 g2 hS9
            go_upto_region 22 with fail
            (try simp only [List.append])
            go_quiet (fail)
            have hv_ : Below x2.heap.size x2 (x2.drewN nq) := below_drewN (Below.refl _ _) _
            generalize x2.drewN nq = x3 at hv_ ⊢
            have hFm3 := hid (hFm2.below hv_)
            clear hv_ hFm2 hq0 hq9 f0 f1 f2 f3 f4
            go_wp2
            go_roundw
            case rel => exact ⟨i + 1, by go_num, by omega, (Fs.mk (s.O.set P d) s.S (s.n + 1)), by first | rfl | (simp; omega) | go_num, hS10, by rw [hgo.out, hgs.out]; exact hFm3.out⟩
            case measure => simp [intOf]; omega
           ·have g2b : (za == y9) = false := beq_eq_false_iff_ne.2 g2
            have hS10 := hid (show frmK H V l (i + 1) = some (Fs.mk (s.O.set P d) s.S s.n) from by have := hS9.out; rw [decide_eq_false (fun h => h.elim g1 g2)] at this; exact this)
            clear g1 g2 hS9
            go_upto_region 22 with fail
            (try simp only [List.append])
            go_quiet (fail)
            have hv_ : Below x2.heap.size x2 (x2.drewN nq) := below_drewN (Below.refl _ _) _
            generalize x2.drewN nq = x3 at hv_ ⊢
            have hFm3 := hid (hFm2.below hv_)
            clear hv_ hFm2 hq0 hq9 f0 f1 f2 f3 f4
            go_wp2
            go_roundw
            case rel => exact ⟨i + 1, by go_num, by omega, (Fs.mk (s.O.set P d) s.S s.n), by first | rfl | (simp; omega) | go_num, hS10, by rw [hgo.out, hgs.out]; exact hFm3.out⟩
            case measure => simp [intOf]; omega
        ·as_aux_lemma =>
         have hpl := hpv.out (by first | rfl | trivial)
         obtain ⟨P, hP⟩ : ∃ x, placP V za = x := ⟨_, rfl⟩
         rw [hP] at hpl
         have hPi : P < NV := by have := hNV.out; omega
         have hPli := hid fun (W : World) (hb : Below wr.heap.size wr W) => (show Calls Tryz.prog 66 #[.slice A2 NV c2, .int .i64 za] W (RetI W (P : Int)) from by
          have := RPlc_g V A2 c2 za (hrV.below hb) (by rw [hP]; exact hpl)
          rw [hP, hNV.out] at this; exact this)
         have hPg : P < gs.length := by have := hgs.out; omega
         obtain ⟨cv, hcv⟩ : ∃ x, s.S.getD P [] = x := ⟨_, rfl⟩
         have hcl : cv.length = K2 := by rw [← hcv]; exact rS P hPi
         have hcg : s.S[P]'(by omega) = cv := by rw [← hcv]; simp [List.getD, show P < s.S.length by omega]
         obtain ⟨gP, hgP⟩ : ∃ x, gs[P] = x := ⟨_, rfl⟩
         have hpx : PxA wr gP cv := by rw [← hgP, ← hcg]; exact hFm.sp.px P hPg (by omega)
         have hmem : gP ∈ go ++ gs := by rw [← hgP]; exact List.mem_append_right _ (List.getElem_mem hPg)
         have hgy2 := hFm.gt _ hmem
         have hno1 := hFm.ns _ hmem
         obtain ⟨bo, oo, hA7, hco⟩ := (hFm.so.rd2 (SlKo K2)).1.at_ (j := P) hPg
         have r0 : wr.cell? ⟨bo, oo + P * 1, none⟩ = some (.slice (some ⟨gP, 0, none⟩) K2 K2) := by rw [← hgP]; exact hco 0 _ rfl
         rw [Nat.mul_one] at r0
         have hbP : b ≠ gP := by omega
         have hfP : gf ≠ gP := by omega
         have hbo : bo ≠ gP := fun e => hno1 (by rw [hA7, e]; rfl)
         have cO : wr.cell? ⟨gf, 3, none⟩ = some (.slice A8 NV c8) := hFm.r 3 _ rfl
         obtain ⟨q1, hq1⟩ : ∃ x, covE ⟨true, za, zt, zf, zo⟩ H cv = x := ⟨_, rfl⟩
         have hCov := hid fun (W : World) (hb : Below wr.heap.size wr W) => (show Calls Tryz.prog 65 #[.agg #[.bool (Ru.mk true za zt zf zo).v, .int .i64 (Ru.mk true za zt zf zo).a, .int .i64 (Ru.mk true za zt zf zo).t, .int .i64 (Ru.mk true za zt zf zo).f, .int .i64 (Ru.mk true za zt zf zo).o], .slice A1 NH c1, .slice (some ⟨gP, 0, none⟩) K2 K2] W (RetCv W gP q1) from by
          have := RCov_g ⟨true, za, zt, zf, zo⟩ H A1 c1 cv gP K2 K2 (hrH.below hb) hcl (by have := hNH.out; omega) (hpx.below hb) hF.out.hb (by have := hNH.out; omega)
          rw [hNH.out, hq1] at this
          exact this)
         have hqn := hid fun (h : q1 = none) => (show q = none from hno.out (by
          rw [hst.out]
          unfold frmS
          dsimp only
          rw [if_pos rfl, hP, hcv, hq1, h]; rfl))
         have hqs := hid fun (d : List Bool) (h : q1 = some d) => (show frmK H V l (i + 1) = some (Fs.mk s.O (s.S.set P d) (s.n + if outP V za then 1 else 0)) from by
          rw [hst.out]
          unfold frmS
          dsimp only
          rw [if_pos rfl, hP, hcv, hq1, h]; rfl)
         have hsub := hid hA7
         subst hA7
         clear hst hno hco hph hpv
         go_upto_region 20 with fail
         refine wp_region_held_drew (S := fun w' => (w'.cell? ⟨b, o + i * 5, none⟩ = some (.bool true) ∧ w'.cell? ⟨b, o + i * 5 + 1, none⟩ = some (.int .i64 za) ∧ w'.cell? ⟨b, o + i * 5 + 2, none⟩ = some (.int .i64 zt) ∧ w'.cell? ⟨b, o + i * 5 + 3, none⟩ = some (.int .i64 zf) ∧ w'.cell? ⟨b, o + i * 5 + 4, none⟩ = some (.int .i64 zo)) ∧ w'.cell? ⟨gf, 3, none⟩ = some (.slice (some ⟨bo, oo, none⟩) NV c8) ∧ w'.cell? ⟨bo, oo + P, none⟩ = some (.slice (some ⟨gP, 0, none⟩) K2 K2)) (by kernel_rfl) ?_ (fun hHeld => ?_)
         ·exact ⟨⟨f0, f1, f2, f3, f4⟩, cO, r0⟩
         have hdb : Below wr.heap.size wr wr.drew := (Below.refl _ _).drew
         generalize wr.drew = xd at hdb hHeld ⊢
         refine' tkA (i := 0) rfl (by decide +kernel) (Or.inl ⟨by rfl, ?_⟩) (by assumption) (fun _ _ _ h => h) ?_
         rotate_left 1
         ·(intro w_ hSw_; (try dsimp only at hSw_); go_simp; (try with_reducible rfl))
         (try simp only [Act.put, Lp0, Lp1, Lp2])
         refine' tkA (i := 1) rfl (by decide +kernel) (Or.inl ⟨by rfl, ?_⟩) (by assumption) (fun _ _ _ h => h) ?_
         rotate_left 1
         ·(intro w_ hSw_; (try dsimp only at hSw_); go_simp; (try with_reducible rfl))
         (try simp only [Act.put, Lp0, Lp1, Lp2])
         refine' tkA (i := 2) rfl (by decide +kernel) (Or.inl ⟨by rfl, ?_⟩) (by assumption) (fun _ _ _ h => h) ?_
         rotate_left 1
         ·(intro w_ hSw_; (try dsimp only at hSw_); go_simp; (try with_reducible rfl))
         (try simp only [Act.put, Lp0, Lp1, Lp2])
         refine' tkA (i := 3) rfl (by decide +kernel) (Or.inl ⟨by rfl, ?_⟩) (by assumption) (fun _ _ _ h => h) ?_
         rotate_left 1
         ·(intro w_ hSw_; (try dsimp only at hSw_); go_simp; (try with_reducible rfl))
         (try simp only [Act.put, Lp0, Lp1, Lp2])
         refine' tkA (i := 4) rfl (by decide +kernel) (Or.inl ⟨by rfl, ?_⟩) (by assumption) (fun _ _ _ h => h) ?_
         rotate_left 1
         ·(intro w_ hSw_; (try dsimp only at hSw_); go_simp; (try with_reducible rfl))
         (try simp only [Act.put, Lp0, Lp1, Lp2])
         refine' tkA (i := 5) rfl (by decide +kernel) (Or.inl ⟨by rfl, ?_⟩) (by assumption) (fun _ _ _ h => h) ?_
         rotate_left 1
         ·(intro w_ hSw_; (try dsimp only at hSw_); go_simp; (try with_reducible rfl))
         (try simp only [Act.put, Lp0, Lp1, Lp2])
         refine' tkA (i := 6) rfl (by decide +kernel) (Or.inl ⟨by rfl, ?_⟩) (by assumption) (fun _ _ _ h => h) ?_
         rotate_left 1
         ·(intro w_ hSw_; (try dsimp only at hSw_); go_simp; (try with_reducible rfl))
         (try simp only [Act.put, Lp0, Lp1, Lp2])
         refine tkA (i := 7) (v := undef) rfl (by decide +kernel) (Or.inr ⟨by rfl, rfl⟩) (by assumption) (fun _ _ _ h => h) ?_
         (try simp only [Act.put, Lp0, Lp1, Lp2])
         refine tkA (i := 8) (v := undef) rfl (by decide +kernel) (Or.inr ⟨by rfl, rfl⟩) (by assumption) (fun _ _ _ h => h) ?_
         (try simp only [Act.put, Lp0, Lp1, Lp2])
         refine tkA (i := 9) (v := undef) rfl (by decide +kernel) (Or.inr ⟨by rfl, rfl⟩) (by assumption) (fun _ _ _ h => h) ?_
         (try simp only [Act.put, Lp0, Lp1, Lp2])
         refine tkA (i := 10) (v := undef) rfl (by decide +kernel) (Or.inr ⟨by rfl, rfl⟩) (by assumption) (fun _ _ _ h => h) ?_
         (try simp only [Act.put, Lp0, Lp1, Lp2])
         refine tkA (i := 11) (v := undef) rfl (by decide +kernel) (Or.inr ⟨by rfl, rfl⟩) (by assumption) (fun _ _ _ h => h) ?_
         (try simp only [Act.put, Lp0, Lp1, Lp2])
         refine tkA (i := 12) (v := undef) rfl (by decide +kernel) (Or.inr ⟨by rfl, rfl⟩) (by assumption) (fun _ _ _ h => h) ?_
         (try simp only [Act.put, Lp0, Lp1, Lp2])
         refine tkA (i := 13) (v := undef) rfl (by decide +kernel) (Or.inr ⟨by rfl, rfl⟩) (by assumption) (fun _ _ _ h => h) ?_
         (try simp only [Act.put, Lp0, Lp1, Lp2])
         refine tkA (i := 14) (v := undef) rfl (by decide +kernel) (Or.inr ⟨by rfl, rfl⟩) (by assumption) (fun _ _ _ h => h) ?_
         (try simp only [Act.put, Lp0, Lp1, Lp2])
         refine tkA (i := 15) (v := undef) rfl (by decide +kernel) (Or.inr ⟨by rfl, rfl⟩) (by assumption) (fun _ _ _ h => h) ?_
         (try simp only [Act.put, Lp0, Lp1, Lp2])
         refine tkA (i := 16) (v := undef) rfl (by decide +kernel) (Or.inr ⟨by rfl, rfl⟩) (by assumption) (fun _ _ _ h => h) ?_
         (try simp only [Act.put, Lp0, Lp1, Lp2])
         refine tkA (i := 17) (v := undef) rfl (by decide +kernel) (Or.inr ⟨by rfl, rfl⟩) (by assumption) (fun _ _ _ h => h) ?_
         (try simp only [Act.put, Lp0, Lp1, Lp2])
         refine tkA (i := 18) (v := undef) rfl (by decide +kernel) (Or.inr ⟨by rfl, rfl⟩) (by assumption) (fun _ _ _ h => h) ?_
         (try simp only [Act.put, Lp0, Lp1, Lp2])
         refine tkA (i := 19) (v := undef) rfl (by decide +kernel) (Or.inr ⟨by rfl, rfl⟩) (by assumption) (fun _ _ _ h => h) ?_
         (try simp only [Act.put, Lp0, Lp1, Lp2])
         refine tkA (i := 20) (v := undef) rfl (by decide +kernel) (Or.inr ⟨by rfl, rfl⟩) (by assumption) (fun _ _ _ h => h) ?_
         (try simp only [Act.put, Lp0, Lp1, Lp2])
         refine tkA (i := 21) (v := undef) rfl (by decide +kernel) (Or.inr ⟨by rfl, rfl⟩) (by assumption) (fun _ _ _ h => h) ?_
         (try simp only [Act.put, Lp0, Lp1, Lp2])
         refine tkA (i := 22) (v := undef) rfl (by decide +kernel) (Or.inr ⟨by rfl, rfl⟩) (by assumption) (fun _ _ _ h => h) ?_
         (try simp only [Act.put, Lp0, Lp1, Lp2])
         refine tkA (i := 23) (v := undef) rfl (by decide +kernel) (Or.inr ⟨by rfl, rfl⟩) (by assumption) (fun _ _ _ h => h) ?_
         (try simp only [Act.put, Lp0, Lp1, Lp2])
         refine tkA (i := 24) (v := undef) rfl (by decide +kernel) (Or.inr ⟨by rfl, rfl⟩) (by assumption) (fun _ _ _ h => h) ?_
         (try simp only [Act.put, Lp0, Lp1, Lp2])
         refine' tkA (i := 25) rfl (by decide +kernel) (Or.inl ⟨by rfl, ?_⟩) (by assumption) (fun _ _ _ h => h) ?_
         rotate_left 1
         ·(intro w_ hSw_; (try dsimp only at hSw_); go_simp; (try with_reducible rfl))
         (try simp only [Act.put, Lp0, Lp1, Lp2])
         refine' tkA (i := 26) rfl (by decide +kernel) (Or.inl ⟨by rfl, ?_⟩) (by assumption) (fun _ _ _ h => h) ?_
         rotate_left 1
         ·(intro w_ hSw_; (try dsimp only at hSw_); go_simp; (try with_reducible rfl))
         (try simp only [Act.put, Lp0, Lp1, Lp2])
         refine' tkA (i := 27) rfl (by decide +kernel) (Or.inl ⟨by rfl, ?_⟩) (by assumption) (fun _ _ _ h => h) ?_
         rotate_left 1
         ·(intro w_ hSw_; (try dsimp only at hSw_); go_simp; (try with_reducible rfl))
         (try simp only [Act.put, Lp0, Lp1, Lp2])
         refine' tkA (i := 28) rfl (by decide +kernel) (Or.inl ⟨by rfl, ?_⟩) (by assumption) (fun _ _ _ h => h) ?_
         rotate_left 1
         ·(intro w_ hSw_; (try dsimp only at hSw_); go_simp; (try with_reducible rfl))
         (try simp only [Act.put, Lp0, Lp1, Lp2])
         refine' tkA (i := 29) rfl (by decide +kernel) (Or.inl ⟨by rfl, ?_⟩) (by assumption) (fun _ _ _ h => h) ?_
         rotate_left 1
         ·(intro w_ hSw_; (try dsimp only at hSw_); go_simp; (try with_reducible rfl))
         (try simp only [Act.put, Lp0, Lp1, Lp2])
         refine' tkA (i := 30) rfl (by decide +kernel) (Or.inl ⟨by rfl, ?_⟩) (by assumption) (fun _ _ _ h => h) ?_
         rotate_left 1
         ·(intro w_ hSw_; (try dsimp only at hSw_); go_simp; (try with_reducible rfl))
         (try simp only [Act.put, Lp0, Lp1, Lp2])
         refine' tkA (i := 31) rfl (by decide +kernel) (Or.inl ⟨by rfl, ?_⟩) (by assumption) (fun _ _ _ h => h) ?_
         rotate_left 1
         ·(intro w_ hSw_; (try dsimp only at hSw_); go_simp; (try with_reducible rfl))
         (try simp only [Act.put, Lp0, Lp1, Lp2])
         refine' tkA (i := 32) rfl (by decide +kernel) (Or.inl ⟨by rfl, ?_⟩) (by assumption) (fun _ _ _ h => h) ?_
         rotate_left 1
         ·(intro w_ hSw_; (try dsimp only at hSw_); go_simp; (try with_reducible rfl))
         (try simp only [Act.put, Lp0, Lp1, Lp2])
         refine' tkA (i := 33) rfl (by decide +kernel) (Or.inl ⟨by rfl, ?_⟩) (by assumption) (fun _ _ _ h => h) ?_
         rotate_left 1
         ·(intro w_ hSw_; (try dsimp only at hSw_); go_simp; (try with_reducible rfl))
         (try simp only [Act.put, Lp0, Lp1, Lp2])
         refine' tkA (i := 34) rfl (by decide +kernel) (Or.inl ⟨by rfl, ?_⟩) (by assumption) (fun _ _ _ h => h) ?_
         rotate_left 1
         ·(intro w_ hSw_; (try dsimp only at hSw_); go_simp; (try with_reducible rfl))
         (try simp only [Act.put, Lp0, Lp1, Lp2])
         refine' tkA (i := 35) rfl (by decide +kernel) (Or.inl ⟨by rfl, ?_⟩) (by assumption) (fun _ _ _ h => h) ?_
         rotate_left 1
         ·(intro w_ hSw_; (try dsimp only at hSw_); go_simp; (try with_reducible rfl))
         (try simp only [Act.put, Lp0, Lp1, Lp2])
         refine' tkA (i := 36) rfl (by decide +kernel) (Or.inl ⟨by rfl, ?_⟩) (by assumption) (fun _ _ _ h => h) ?_
         rotate_left 1
         ·(intro w_ hSw_; (try dsimp only at hSw_); go_simp; (try with_reducible rfl))
         (try simp only [Act.put, Lp0, Lp1, Lp2])
         refine' tkA (i := 37) rfl (by decide +kernel) (Or.inl ⟨by rfl, ?_⟩) (by assumption) (fun _ _ _ h => h) ?_
         rotate_left 1
         ·(intro w_ hSw_; (try dsimp only at hSw_); go_simp; (try with_reducible rfl))
         (try simp only [Act.put, Lp0, Lp1, Lp2])
         refine' tkA (i := 38) rfl (by decide +kernel) (Or.inl ⟨by rfl, ?_⟩) (by assumption) (fun _ _ _ h => h) ?_
         rotate_left 1
         ·(intro w_ hSw_; (try dsimp only at hSw_); go_simp; (try with_reducible rfl))
         (try simp only [Act.put, Lp0, Lp1, Lp2])
         refine' tkA (i := 39) rfl (by decide +kernel) (Or.inl ⟨by rfl, ?_⟩) (by assumption) (fun _ _ _ h => h) ?_
         rotate_left 1
         ·(intro w_ hSw_; (try dsimp only at hSw_); go_simp; (try with_reducible rfl))
         (try simp only [Act.put, Lp0, Lp1, Lp2])
         refine' tkA (i := 40) rfl (by decide +kernel) (Or.inl ⟨by rfl, ?_⟩) (by assumption) (fun _ _ _ h => h) ?_
         rotate_left 1
         ·(intro w_ hSw_; (try dsimp only at hSw_); go_simp; (try with_reducible rfl))
         (try simp only [Act.put, Lp0, Lp1, Lp2])
         refine' tkA (i := 41) rfl (by decide +kernel) (Or.inl ⟨by rfl, ?_⟩) (by assumption) (fun _ _ _ h => h) ?_
         rotate_left 1
         ·(intro w_ hSw_; (try dsimp only at hSw_); go_simp; (try with_reducible rfl))
         (try simp only [Act.put, Lp0, Lp1, Lp2])
         refine' tkA (i := 42) rfl (by decide +kernel) (Or.inl ⟨by rfl, ?_⟩) (by assumption) (fun _ _ _ h => h) ?_
         rotate_left 1
         ·(intro w_ hSw_; (try dsimp only at hSw_); go_simp; (try with_reducible rfl))
         (try simp only [Act.put, Lp0, Lp1, Lp2])
         refine' tkA (i := 43) rfl (by decide +kernel) (Or.inl ⟨by rfl, ?_⟩) (by assumption) (fun _ _ _ h => h) ?_
         rotate_left 1
         ·(intro w_ hSw_; (try dsimp only at hSw_); go_simp; (try with_reducible rfl))
         (try simp only [Act.put, Lp0, Lp1, Lp2])
         refine' tkA (i := 44) rfl (by decide +kernel) (Or.inl ⟨by rfl, ?_⟩) (by assumption) (fun _ _ _ h => h) ?_
         rotate_left 1
         ·(intro w_ hSw_; (try dsimp only at hSw_); go_simp; (try with_reducible rfl))
         (try simp only [Act.put, Lp0, Lp1, Lp2])
         refine' tkA (i := 45) rfl (by decide +kernel) (Or.inl ⟨by rfl, ?_⟩) (by assumption) (fun _ _ _ h => h) ?_
         rotate_left 1
         ·(intro w_ hSw_; (try dsimp only at hSw_); go_simp; (try with_reducible rfl))
         (try simp only [Act.put, Lp0, Lp1, Lp2])
         refine brA (i := 46) (by decide +kernel) rfl (fun K hK => ?_)
         go_simp
         (refine (hPli.out xd hdb).mono ?_; rintro e x1 ⟨rfl, hv1⟩)
         (try go_wp2_with fail)
         refine hK.out _ _ ?_ (fun hHeld => ?_)
         ·exact ⟨⟨keep_cell hv1 hHeld.1.1, keep_cell hv1 hHeld.1.2.1, keep_cell hv1 hHeld.1.2.2.1, keep_cell hv1 hHeld.1.2.2.2.1, keep_cell hv1 hHeld.1.2.2.2.2⟩, keep_cell hv1 hHeld.2.1, keep_cell hv1 hHeld.2.2⟩
         clear hK K
         (try simp only [Act.put, Lp0, Lp1, Lp2])
         have hb1 := bel_step hdb hv1
         refine' tkA (i := 47) rfl (by decide +kernel) (Or.inl ⟨by rfl, ?_⟩) (by assumption) (fun _ _ _ h => h) ?_
         rotate_left 1
         ·(intro w_ hSw_; (try dsimp only at hSw_); go_simp; (try with_reducible rfl))
         (try simp only [Act.put, Lp0, Lp1, Lp2])
         refine' tkA (i := 48) rfl (by decide +kernel) (Or.inl ⟨by rfl, ?_⟩) (by assumption) (fun _ _ _ h => h) ?_
         rotate_left 1
         ·(intro w_ hSw_; (try dsimp only at hSw_); go_simp; (try with_reducible rfl))
         (try simp only [Act.put, Lp0, Lp1, Lp2])
         refine brA (i := 49) (by decide +kernel) rfl (fun K hK => ?_)
         go_simp
         refine (hCov.out x1 hb1).mono ?_
         rintro e x2 (⟨hqc, rfl, hgb2⟩ | ⟨d, hqc, rfl, hPx⟩)
         ·(try go_wp2_with fail)
          refine hK.out _ _ ?_ (fun hHeld => ?_)
          ·exact ⟨⟨hgb2.cell hHeld.1.1 (fun e => hbP (Option.some.inj e)), hgb2.cell hHeld.1.2.1 (fun e => hbP (Option.some.inj e)), hgb2.cell hHeld.1.2.2.1 (fun e => hbP (Option.some.inj e)), hgb2.cell hHeld.1.2.2.2.1 (fun e => hbP (Option.some.inj e)), hgb2.cell hHeld.1.2.2.2.2 (fun e => hbP (Option.some.inj e))⟩, hgb2.cell hHeld.2.1 (fun e => hfP (Option.some.inj e)), hgb2.cell hHeld.2.2 (fun e => hbo (Option.some.inj e))⟩
          clear hK K
          (try simp only [Act.put, Lp0, Lp1, Lp2])
          have hgb9 := (gb_below hb1 (row := some gP)).trans hgb2
          replace hqn := hqn.out hqc
          clear hgb2 hb1 hv1 hdb hqs hCov hPli
          refine' tkA (i := 50) rfl (by decide +kernel) (Or.inl ⟨by rfl, ?_⟩) (by assumption) (fun _ _ _ h => h) ?_
          rotate_left 1
          ·(intro w_ hSw_; (try dsimp only at hSw_); go_simp; (try with_reducible rfl))
          (try simp only [Act.put, Lp0, Lp1, Lp2])
          refine' tkA (i := 51) rfl (by decide +kernel) (Or.inl ⟨by rfl, ?_⟩) (by assumption) (fun _ _ _ h => h) ?_
          rotate_left 1
          ·(intro w_ hSw_; (try dsimp only at hSw_); go_simp; (try with_reducible rfl))
          (try simp only [Act.put, Lp0, Lp1, Lp2])
          refine' tkA (i := 52) rfl (by decide +kernel) (Or.inl ⟨by rfl, ?_⟩) (by assumption) (fun _ _ _ h => h) ?_
          rotate_left 1
          ·(intro w_ hSw_; (try dsimp only at hSw_); go_simp; (try with_reducible rfl))
          (try simp only [Act.put, Lp0, Lp1, Lp2])
          refine wpAnyH_done (by kernel_rfl) ?_ _
          -- the line does not fit
          obtain ⟨⟨q0, q1⟩, q2⟩ := hFm.kp hmem hgb9
          obtain ⟨⟨HB9, -, -⟩, ⟨k0, k1⟩, ⟨k2, k3⟩, z9, -⟩ := hKp.out x2 q2
          have m0 : x2.cell? ⟨gf, 0, none⟩ = some (.slice A1 NH c1) := q0 0 _ rfl
          have m1 : x2.cell? ⟨gf, 1, none⟩ = some (.slice A2 NV c2) := q0 1 _ rfl
          have m2 : x2.cell? ⟨gf, 2, none⟩ = some (.slice A7 NH c7) := q0 2 _ rfl
          have m3 : x2.cell? ⟨gf, 3, none⟩ = some (.slice (some ⟨bo, oo, none⟩) NV c8) := q0 3 _ rfl
          have fk := z9.fr
          have ltk := cell_lt k0
          have HBf := hid (below_set (below_set (below_set (below_set HB9 (Nat.le_refl _) 0 (.slice A1 NH c1)) (Nat.le_refl _) 1 (.slice A2 NV c2)) (Nat.le_refl _) 2 (.slice A7 NH c7)) (Nat.le_refl _) 3 (.slice (some ⟨bo, oo, none⟩) NV c8))
          replace hqn := hid hqn
          clear hFm hKp q0 q1 q2 HB9 z9 hgb9
          go_wp2
          refine bodyPost_ret (v := .tuple #[.agg #[.slice A1 NH c1, .slice A2 NV c2, .slice A7 NH c7, .slice (some ⟨bo, oo, none⟩) NV c8], .bool false]) ?_ rfl ?_
          ·simp [results, Tryz.results41, go_sem, k0, k1, k2, k3]
          ·exact hfin.out _ _ _ _ _ _ _ _ _ _ _ _ _ _ (by rw [hqn.out]; rfl) (fun s h => by rw [hqn.out] at h; cases h) HBf.out
         ·(try go_wp2_with fail)
          refine hK.out _ _ ?_ (fun hHeld => ?_)
          ·exact ⟨⟨hPx.gb.cell hHeld.1.1 (fun e => hbP (Option.some.inj e)), hPx.gb.cell hHeld.1.2.1 (fun e => hbP (Option.some.inj e)), hPx.gb.cell hHeld.1.2.2.1 (fun e => hbP (Option.some.inj e)), hPx.gb.cell hHeld.1.2.2.2.1 (fun e => hbP (Option.some.inj e)), hPx.gb.cell hHeld.1.2.2.2.2 (fun e => hbP (Option.some.inj e))⟩, hPx.gb.cell hHeld.2.1 (fun e => hfP (Option.some.inj e)), hPx.gb.cell hHeld.2.2 (fun e => hbo (Option.some.inj e))⟩
          clear hK K
          (try simp only [Act.put, Lp0, Lp1, Lp2])
          have hPx9 : PxR wr gP d x2 := PxR.step hb1 hPx
          have hS9 := hid (hqs.out d hqc)
          clear hPx hb1 hv1 hdb hqs hCov hPli hqn
          refine' tkA (i := 50) rfl (by decide +kernel) (Or.inl ⟨by rfl, ?_⟩) (by assumption) (fun _ _ _ h => h) ?_
          rotate_left 1
          ·(intro w_ hSw_; (try dsimp only at hSw_); go_simp; (try with_reducible rfl))
          (try simp only [Act.put, Lp0, Lp1, Lp2])
          refine' tkA (i := 51) rfl (by decide +kernel) (Or.inl ⟨by rfl, ?_⟩) (by assumption) (fun _ _ _ h => h) ?_
          rotate_left 1
          ·(intro w_ hSw_; (try dsimp only at hSw_); go_simp; (try with_reducible rfl))
          (try simp only [Act.put, Lp0, Lp1, Lp2])
          refine' tkA (i := 52) rfl (by decide +kernel) (Or.inl ⟨by rfl, ?_⟩) (by assumption) (fun _ _ _ h => h) ?_
          rotate_left 1
          ·(intro w_ hSw_; (try dsimp only at hSw_); go_simp; (try with_reducible rfl))
          (try simp only [Act.put, Lp0, Lp1, Lp2])
          refine wpAnyH_done (by kernel_rfl) ?_ _
          have hFm2 := hFm.putS (k := P) (d := d) hPg (by rw [hgP]; exact hPx9)
          have hsw : IntKind.i64.wrap ((s.n : Int) + 1) = (s.n : Int) + 1 := by rw [IntKind.wrap_i64]; omega
          clear hFm hPx9 hmem hpx
          obtain ⟨⟨f0, f1, f2, f3, f4⟩, -, -⟩ := hHeld
          obtain ⟨⟨HB2, hrH2, hrV2⟩, -, -, -⟩ := hKp.out x2 hFm2.gb
          have hN0 : 0 < NV := by omega
          have hN0i : (0 : Int) < (NV : Int) := by omega
          have hKi : (K1 : Int) < (NV : Int) := by omega
          have hl0 : 0 < (V).length := by have := hNV.out; omega
          have hl9 : K1 < (V).length := by have := hNV.out; omega
          obtain ⟨bh, oh, hAh, hc0⟩ := (hrV2).at_ (j := 0) hl0
          obtain ⟨bi, oi, hAi, hc9⟩ := (hrV2).at_ (j := K1) hl9
          obtain ⟨rfl, rfl⟩ : bh = bi ∧ oh = oi := by rw [hAh] at hAi; injection hAi with h; injection h with h1 h2 _; exact ⟨h1, h2⟩
          have hq0 : x2.cell? ⟨bh, oh + 0 * 2, none⟩ = some (.int .i64 ((V)[0]'hl0).1) := hc0 0 _ rfl
          have hq9 : x2.cell? ⟨bh, oh + K1 * 2, none⟩ = some (.int .i64 ((V)[K1]'hl9).1) := hc9 0 _ rfl
          rw [Nat.zero_mul, Nat.add_zero] at hq0
          have hout : outP V za = decide (za = ((V)[0]'hl0).1 ∨ za = ((V)[K1]'hl9).1) := by
           unfold outP
           rw [show (V).length - 1 = K1 by have := hNV.out; omega]
           simp [List.getD, hl0, hl9]
          rw [hout] at hS9
          generalize ((V)[0]'hl0).1 = y0 at *
          generalize ((V)[K1]'hl9).1 = y9 at *
          clear hc0 hc9 hAi hout hKp hfin hM hF HB2 hrH2 hrV2 hrH hrV
          subst hAh
          by_cases g1 : za = y0
          ·have g1b : (za == y0) = true := beq_iff_eq.2 g1
           have hS10 := hid (show frmK H V l (i + 1) = some (Fs.mk s.O (s.S.set P d) (s.n + 1)) from by have := hS9.out; rw [decide_eq_true (Or.inl g1)] at this; exact this)
           clear g1 hS9
           go_upto_region 22 with fail
           (try simp only [List.append])
           go_quiet (fail)
           have hv_ : Below x2.heap.size x2 (x2.drewN nq) := below_drewN (Below.refl _ _) _
           generalize x2.drewN nq = x3 at hv_ ⊢
           have hFm3 := hid (hFm2.below hv_)
           clear hv_ hFm2 hq0 hq9 f0 f1 f2 f3 f4
           go_wp2
           go_roundw
           case rel => exact ⟨i + 1, by go_num, by omega, (Fs.mk s.O (s.S.set P d) (s.n + 1)), by first | rfl | (simp; omega) | go_num, hS10, by rw [hgo.out, hgs.out]; exact hFm3.out⟩
           case measure => simp [intOf]; omega
          ·have g1b : (za == y0) = false := beq_eq_false_iff_ne.2 g1
           by_cases g2 : za = y9
           ·have g2b : (za == y9) = true := beq_iff_eq.2 g2
            have hS10 := hid (show frmK H V l (i + 1) = some (Fs.mk s.O (s.S.set P d) (s.n + 1)) from by have := hS9.out; rw [decide_eq_true (Or.inr g2)] at this; exact this)
            clear g1 g2 hS9
            go_upto_region 22 with fail
            (try simp only [List.append])
            go_quiet (fail)
            have hv_ : Below x2.heap.size x2 (x2.drewN nq) := below_drewN (Below.refl _ _) _
            generalize x2.drewN nq = x3 at hv_ ⊢
            have hFm3 := hid (hFm2.below hv_)
            clear hv_ hFm2 hq0 hq9 f0 f1 f2 f3 f4
            go_wp2
            go_roundw
            case rel => exact ⟨i + 1, by go_num, by omega, (Fs.mk s.O (s.S.set P d) (s.n + 1)), by first | rfl | (simp; omega) | go_num, hS10, by rw [hgo.out, hgs.out]; exact hFm3.out⟩
            case measure => simp [intOf]; omega
           ·have g2b : (za == y9) = false := beq_eq_false_iff_ne.2 g2
            have hS10 := hid (show frmK H V l (i + 1) = some (Fs.mk s.O (s.S.set P d) s.n) from by have := hS9.out; rw [decide_eq_false (fun h => h.elim g1 g2)] at this; exact this)
            clear g1 g2 hS9
            go_upto_region 22 with fail
            (try simp only [List.append])
            go_quiet (fail)
            have hv_ : Below x2.heap.size x2 (x2.drewN nq) := below_drewN (Below.refl _ _) _
            generalize x2.drewN nq = x3 at hv_ ⊢
            have hFm3 := hid (hFm2.below hv_)
            clear hv_ hFm2 hq0 hq9 f0 f1 f2 f3 f4
            go_wp2
            go_roundw
            case rel => exact ⟨i + 1, by go_num, by omega, (Fs.mk s.O (s.S.set P d) s.n), by first | rfl | (simp; omega) | go_num, hS10, by rw [hgo.out, hgs.out]; exact hFm3.out⟩
            case measure => simp [intOf]; omega
       ·obtain rfl : n = i := by omega
        have hii : ¬ (n : Int) < (n : Int) := by omega
        have hqe0 := hid (hF.out.fin s (by rw [hn.out]; exact hS.out))
        have hPg0 : 0 < go.length := by have := hgo.out; omega
        have hPg2 : K2 < go.length := by have := hgo.out; omega
        have hPs0 : 0 < gs.length := by have := hgs.out; omega
        have hPs1 : K1 < gs.length := by have := hgs.out; omega
        obtain ⟨bo, oo, hA7, hco⟩ := (hFm.oo.rd2 (SlKo K1)).1.at_ (j := 0) hPg0
        obtain ⟨bp, op, hA7', hcp⟩ := (hFm.oo.rd2 (SlKo K1)).1.at_ (j := K2) hPg2
        obtain ⟨rfl, rfl⟩ : bo = bp ∧ oo = op := by rw [hA7] at hA7'; injection hA7' with h; injection h with h1 h2 _; exact ⟨h1, h2⟩
        obtain ⟨bs, os, hA8, hcs⟩ := (hFm.so.rd2 (SlKo K2)).1.at_ (j := 0) hPs0
        obtain ⟨bt, ot, hA8', hct⟩ := (hFm.so.rd2 (SlKo K2)).1.at_ (j := K1) hPs1
        obtain ⟨rfl, rfl⟩ : bs = bt ∧ os = ot := by rw [hA8] at hA8'; injection hA8' with h; injection h with h1 h2 _; exact ⟨h1, h2⟩
        have r0 : wr.cell? ⟨bo, oo + 0 * 1, none⟩ = some (.slice (some ⟨go[0], 0, none⟩) K1 K1) := hco 0 _ rfl
        have r1 : wr.cell? ⟨bo, oo + K2 * 1, none⟩ = some (.slice (some ⟨go[K2], 0, none⟩) K1 K1) := hcp 0 _ rfl
        have r2 : wr.cell? ⟨bs, os + 0 * 1, none⟩ = some (.slice (some ⟨gs[0], 0, none⟩) K2 K2) := hcs 0 _ rfl
        have r3 : wr.cell? ⟨bs, os + K1 * 1, none⟩ = some (.slice (some ⟨gs[K1], 0, none⟩) K2 K2) := hct 0 _ rfl
        rw [Nat.mul_one] at r0 r1 r2 r3
        rw [Nat.add_zero] at r0 r2
        have hful : ∀ (gl : List Nat) (M : List (List Bool)) (K : Nat), Rws wr gl M → (∀ k, k < M.length → (M.getD k []).length = K) → K ≤ 100000 → ∀ k (h : k < gl.length) (W : World), Below wr.heap.size wr W → Calls Tryz.prog 67 #[.slice (some ⟨gl[k], 0, none⟩) K K] W (RetB W (fulB (M.getD k []))) := fun gl M K hR hK hKl k h W hb => by
         have hkM : k < M.length := by rw [← hR.len]; exact h
         have hpx := hR.px k h hkM
         have e : M.getD k [] = M[k] := by simp [List.getD, hkM]
         have hl := hK k hkM
         rw [e] at hl ⊢
         have hr := (hpx.below hb).rd (c := K) (by omega) (by omega)
         have := RFul_g M[k] (some ⟨gl[k], 0, none⟩) K hr
         rw [hl] at this
         exact this
        have hU1 := hid fun W hb => hful go s.O K1 hFm.op (by rw [lO]; exact rO) (by omega) 0 hPg0 W hb
        have hU2 := hid fun W hb => hful go s.O K1 hFm.op (by rw [lO]; exact rO) (by omega) K2 hPg2 W hb
        have hU3 := hid fun W hb => hful gs s.S K2 hFm.sp (by rw [lS]; exact rS) (by omega) 0 hPs0 W hb
        have hU4 := hid fun W hb => hful gs s.S K2 hFm.sp (by rw [lS]; exact rS) (by omega) K1 hPs1 W hb
        have hqe := hid (show q = if (decide (s.n = 4) && fulB (s.O.getD 0 []) && fulB (s.O.getD K2 []) && fulB (s.S.getD 0 []) && fulB (s.S.getD K1 [])) = true then some s else none from by
         rw [hqe0.out]
         unfold frmF
         rw [hNH.out, hNV.out, hK1, hK2])
        generalize fulB (s.O.getD 0 []) = F1 at *
        generalize fulB (s.O.getD K2 []) = F2 at *
        generalize fulB (s.S.getD 0 []) = F3 at *
        generalize fulB (s.S.getD K1 []) = F4 at *
        generalize go[0] = g0 at *
        generalize go[K2] = g2 at *
        generalize gs[0] = g3 at *
        generalize gs[K1] = g4 at *
        have m0 : wr.cell? ⟨gf, 0, none⟩ = some (.slice A1 NH c1) := hFm.r 0 _ rfl
        have m1 : wr.cell? ⟨gf, 1, none⟩ = some (.slice A2 NV c2) := hFm.r 1 _ rfl
        have m2 : wr.cell? ⟨gf, 2, none⟩ = some (.slice A7 NH c7) := hFm.r 2 _ rfl
        have m3 : wr.cell? ⟨gf, 3, none⟩ = some (.slice A8 NV c8) := hFm.r 3 _ rfl
        have hwgf : w.heap.size ≠ gf := by omega
        have hwbo : w.heap.size ≠ bo := by
         have h := hFm.oo
         rw [hA7] at h
         have := own_blk h; omega
        have hwbs : w.heap.size ≠ bs := by
         have h := hFm.so
         rw [hA8] at h
         have := own_blk h; omega
        have hN1i : (K2 : Int) < (NH : Int) := by omega
        have hN2i : (K1 : Int) < (NV : Int) := by omega
        have hN3 : 0 < NH := by omega
        have hN4 : 0 < NV := by omega
        have hN3i : (0 : Int) < (NH : Int) := by omega
        have hN4i : (0 : Int) < (NV : Int) := by omega
        have hw1 : IntKind.i64.wrap ((NH : Int) - 1) = (K2 : Int) := by rw [IntKind.wrap_i64]; omega
        have hw2 : IntKind.i64.wrap ((NV : Int) - 1) = (K1 : Int) := by rw [IntKind.wrap_i64]; omega
        subst hA7 hA8
        clear hco hcp hcs hct hful hA7' hA8' hqe0 hrH hrV HBr rO rS
        go_upto_region 25 with fail
        refine wp_region_held_drew (S := fun w' => ((w'.cell? ⟨gf, 0, none⟩ = some (.slice A1 NH c1) ∧ w'.cell? ⟨gf, 1, none⟩ = some (.slice A2 NV c2)) ∧ w'.cell? ⟨gf, 2, none⟩ = some (.slice (some ⟨bo, oo, none⟩) NH c7) ∧ w'.cell? ⟨gf, 3, none⟩ = some (.slice (some ⟨bs, os, none⟩) NV c8)) ∧ (w'.cell? ⟨bo, oo, none⟩ = some (.slice (some ⟨g0, 0, none⟩) K1 K1) ∧ w'.cell? ⟨bo, oo + K2, none⟩ = some (.slice (some ⟨g2, 0, none⟩) K1 K1)) ∧ w'.cell? ⟨bs, os, none⟩ = some (.slice (some ⟨g3, 0, none⟩) K2 K2) ∧ w'.cell? ⟨bs, os + K1, none⟩ = some (.slice (some ⟨g4, 0, none⟩) K2 K2)) (by kernel_rfl) ?_ (fun hHeld => ?_)
        ·exact ⟨⟨⟨m0, m1⟩, m2, m3⟩, ⟨r0, r1⟩, r2, r3⟩
        have hdb : Below wr.heap.size wr wr.drew := (Below.refl _ _).drew
        generalize wr.drew = xd at hdb hHeld ⊢
        by_cases h4 : s.n = 4
        ·have h4i : ((s.n : Int) == 4) = true := by rw [beq_iff_eq]; omega
         rw [decide_eq_true h4, Bool.true_and] at hqe
         refine' tkA (i := 0) rfl (by decide +kernel) (Or.inl ⟨by rfl, ?_⟩) (by assumption) (fun _ _ _ h => h) ?_
         rotate_left 1
         ·(intro w_ hSw_; (try dsimp only at hSw_); go_simp; (try with_reducible rfl))
         (try simp only [Act.put, Lp0, Lp1, Lp2])
         refine' tkA (i := 1) rfl (by decide +kernel) (Or.inl ⟨by rfl, ?_⟩) (by assumption) (fun _ _ _ h => h) ?_
         rotate_left 1
         ·(intro w_ hSw_; (try dsimp only at hSw_); go_simp; (try with_reducible rfl))
         (try simp only [Act.put, Lp0, Lp1, Lp2])
         refine' tkA (i := 2) rfl (by decide +kernel) (Or.inl ⟨by rfl, ?_⟩) (by assumption) (fun _ _ _ h => h) ?_
         rotate_left 1
         ·(intro w_ hSw_; (try dsimp only at hSw_); go_simp; (try with_reducible rfl))
         (try simp only [Act.put, Lp0, Lp1, Lp2])
         refine' tkA (i := 3) rfl (by decide +kernel) (Or.inl ⟨by rfl, ?_⟩) (by assumption) (fun _ _ _ h => h) ?_
         rotate_left 1
         ·(intro w_ hSw_; (try dsimp only at hSw_); go_simp; (try with_reducible rfl))
         (try simp only [Act.put, Lp0, Lp1, Lp2])
         refine' tkA (i := 4) rfl (by decide +kernel) (Or.inl ⟨by rfl, ?_⟩) (by assumption) (fun _ _ _ h => h) ?_
         rotate_left 1
         ·(intro w_ hSw_; (try dsimp only at hSw_); go_simp; (try with_reducible rfl))
         (try simp only [Act.put, Lp0, Lp1, Lp2])
         refine' tkA (i := 5) rfl (by decide +kernel) (Or.inl ⟨by rfl, ?_⟩) (by assumption) (fun _ _ _ h => h) ?_
         rotate_left 1
         ·(intro w_ hSw_; (try dsimp only at hSw_); go_simp; (try with_reducible rfl))
         (try simp only [Act.put, Lp0, Lp1, Lp2])
         refine' tkA (i := 6) rfl (by decide +kernel) (Or.inl ⟨by rfl, ?_⟩) (by assumption) (fun _ _ _ h => h) ?_
         rotate_left 1
         ·(intro w_ hSw_; (try dsimp only at hSw_); go_simp; (try with_reducible rfl))
         (try simp only [Act.put, Lp0, Lp1, Lp2])
         refine' tkA (i := 7) rfl (by decide +kernel) (Or.inl ⟨by rfl, ?_⟩) (by assumption) (fun _ _ _ h => h) ?_
         rotate_left 1
         ·(intro w_ hSw_; (try dsimp only at hSw_); go_simp; (try with_reducible rfl))
         (try simp only [Act.put, Lp0, Lp1, Lp2])
         refine brA (i := 8) (by decide +kernel) rfl (fun K hK => ?_)
         go_simp
         (refine (hU1.out xd hdb).mono ?_; rintro e x1 ⟨rfl, hq1⟩)
         (try go_wp2_with fail)
         refine hK.out _ _ ?_ (fun hHeld => ?_)
         ·exact ⟨⟨⟨keep_cell hq1 hHeld.1.1.1, keep_cell hq1 hHeld.1.1.2⟩, keep_cell hq1 hHeld.1.2.1, keep_cell hq1 hHeld.1.2.2⟩, ⟨keep_cell hq1 hHeld.2.1.1, keep_cell hq1 hHeld.2.1.2⟩, keep_cell hq1 hHeld.2.2.1, keep_cell hq1 hHeld.2.2.2⟩
         clear hK K
         (try simp only [Act.put, Lp0, Lp1, Lp2])
         have hd1 := bel_step hdb hq1
         clear hq1
         cases F1
         ·simp only [Bool.false_and] at hqe
          obtain ⟨x9, hx9⟩ : ∃ x, x = x1 := ⟨_, rfl⟩
          subst hx9
          have hFm9 := hFm.below hd1
          clear hFm m0 m1 m2 m3 r0 r1 r2 r3 hU1 hU2 hU3 hU4
          refine' tkA (i := 9) rfl (by decide +kernel) (Or.inl ⟨by rfl, ?_⟩) (by assumption) (fun _ _ _ h => h) ?_
          rotate_left 1
          ·(intro w_ hSw_; (try dsimp only at hSw_); go_simp; (try with_reducible rfl))
          (try simp only [Act.put, Lp0, Lp1, Lp2])
          refine' tkA (i := 10) rfl (by decide +kernel) (Or.inl ⟨by rfl, ?_⟩) (by assumption) (fun _ _ _ h => h) ?_
          rotate_left 1
          ·(intro w_ hSw_; (try dsimp only at hSw_); go_simp; (try with_reducible rfl))
          (try simp only [Act.put, Lp0, Lp1, Lp2])
          refine tkA (i := 11) (v := undef) rfl (by decide +kernel) (Or.inr ⟨by rfl, rfl⟩) (by assumption) (fun _ _ _ h => h) ?_
          (try simp only [Act.put, Lp0, Lp1, Lp2])
          refine tkA (i := 12) (v := undef) rfl (by decide +kernel) (Or.inr ⟨by rfl, rfl⟩) (by assumption) (fun _ _ _ h => h) ?_
          (try simp only [Act.put, Lp0, Lp1, Lp2])
          refine tkA (i := 13) (v := undef) rfl (by decide +kernel) (Or.inr ⟨by rfl, rfl⟩) (by assumption) (fun _ _ _ h => h) ?_
          (try simp only [Act.put, Lp0, Lp1, Lp2])
          refine tkA (i := 14) (v := undef) rfl (by decide +kernel) (Or.inr ⟨by rfl, rfl⟩) (by assumption) (fun _ _ _ h => h) ?_
          (try simp only [Act.put, Lp0, Lp1, Lp2])
          refine tkA (i := 15) (v := undef) rfl (by decide +kernel) (Or.inr ⟨by rfl, rfl⟩) (by assumption) (fun _ _ _ h => h) ?_
          (try simp only [Act.put, Lp0, Lp1, Lp2])
          refine tkA (i := 16) (v := undef) rfl (by decide +kernel) (Or.inr ⟨by rfl, rfl⟩) (by assumption) (fun _ _ _ h => h) ?_
          (try simp only [Act.put, Lp0, Lp1, Lp2])
          refine tkA (i := 17) (v := undef) rfl (by decide +kernel) (Or.inr ⟨by rfl, rfl⟩) (by assumption) (fun _ _ _ h => h) ?_
          (try simp only [Act.put, Lp0, Lp1, Lp2])
          refine tkA (i := 18) (v := undef) rfl (by decide +kernel) (Or.inr ⟨by rfl, rfl⟩) (by assumption) (fun _ _ _ h => h) ?_
          (try simp only [Act.put, Lp0, Lp1, Lp2])
          refine' tkA (i := 19) rfl (by decide +kernel) (Or.inl ⟨by rfl, ?_⟩) (by assumption) (fun _ _ _ h => h) ?_
          rotate_left 1
          ·(intro w_ hSw_; (try dsimp only at hSw_); go_simp; (try with_reducible rfl))
          (try simp only [Act.put, Lp0, Lp1, Lp2])
          refine' tkA (i := 20) rfl (by decide +kernel) (Or.inl ⟨by rfl, ?_⟩) (by assumption) (fun _ _ _ h => h) ?_
          rotate_left 1
          ·(intro w_ hSw_; (try dsimp only at hSw_); go_simp; (try with_reducible rfl))
          (try simp only [Act.put, Lp0, Lp1, Lp2])
          refine tkA (i := 21) (v := undef) rfl (by decide +kernel) (Or.inr ⟨by rfl, rfl⟩) (by assumption) (fun _ _ _ h => h) ?_
          (try simp only [Act.put, Lp0, Lp1, Lp2])
          refine tkA (i := 22) (v := undef) rfl (by decide +kernel) (Or.inr ⟨by rfl, rfl⟩) (by assumption) (fun _ _ _ h => h) ?_
          (try simp only [Act.put, Lp0, Lp1, Lp2])
          refine tkA (i := 23) (v := undef) rfl (by decide +kernel) (Or.inr ⟨by rfl, rfl⟩) (by assumption) (fun _ _ _ h => h) ?_
          (try simp only [Act.put, Lp0, Lp1, Lp2])
          refine tkA (i := 24) (v := undef) rfl (by decide +kernel) (Or.inr ⟨by rfl, rfl⟩) (by assumption) (fun _ _ _ h => h) ?_
          (try simp only [Act.put, Lp0, Lp1, Lp2])
          refine tkA (i := 25) (v := undef) rfl (by decide +kernel) (Or.inr ⟨by rfl, rfl⟩) (by assumption) (fun _ _ _ h => h) ?_
          (try simp only [Act.put, Lp0, Lp1, Lp2])
          refine' tkA (i := 26) rfl (by decide +kernel) (Or.inl ⟨by rfl, ?_⟩) (by assumption) (fun _ _ _ h => h) ?_
          rotate_left 1
          ·(intro w_ hSw_; (try dsimp only at hSw_); go_simp; (try with_reducible rfl))
          (try simp only [Act.put, Lp0, Lp1, Lp2])
          refine' tkA (i := 27) rfl (by decide +kernel) (Or.inl ⟨by rfl, ?_⟩) (by assumption) (fun _ _ _ h => h) ?_
          rotate_left 1
          ·(intro w_ hSw_; (try dsimp only at hSw_); go_simp; (try with_reducible rfl))
          (try simp only [Act.put, Lp0, Lp1, Lp2])
          refine tkA (i := 28) (v := undef) rfl (by decide +kernel) (Or.inr ⟨by rfl, rfl⟩) (by assumption) (fun _ _ _ h => h) ?_
          (try simp only [Act.put, Lp0, Lp1, Lp2])
          refine tkA (i := 29) (v := undef) rfl (by decide +kernel) (Or.inr ⟨by rfl, rfl⟩) (by assumption) (fun _ _ _ h => h) ?_
          (try simp only [Act.put, Lp0, Lp1, Lp2])
          refine tkA (i := 30) (v := undef) rfl (by decide +kernel) (Or.inr ⟨by rfl, rfl⟩) (by assumption) (fun _ _ _ h => h) ?_
          (try simp only [Act.put, Lp0, Lp1, Lp2])
          refine tkA (i := 31) (v := undef) rfl (by decide +kernel) (Or.inr ⟨by rfl, rfl⟩) (by assumption) (fun _ _ _ h => h) ?_
          (try simp only [Act.put, Lp0, Lp1, Lp2])
          refine tkA (i := 32) (v := undef) rfl (by decide +kernel) (Or.inr ⟨by rfl, rfl⟩) (by assumption) (fun _ _ _ h => h) ?_
          (try simp only [Act.put, Lp0, Lp1, Lp2])
          refine tkA (i := 33) (v := undef) rfl (by decide +kernel) (Or.inr ⟨by rfl, rfl⟩) (by assumption) (fun _ _ _ h => h) ?_
          (try simp only [Act.put, Lp0, Lp1, Lp2])
          refine tkA (i := 34) (v := undef) rfl (by decide +kernel) (Or.inr ⟨by rfl, rfl⟩) (by assumption) (fun _ _ _ h => h) ?_
          (try simp only [Act.put, Lp0, Lp1, Lp2])
          refine tkA (i := 35) (v := undef) rfl (by decide +kernel) (Or.inr ⟨by rfl, rfl⟩) (by assumption) (fun _ _ _ h => h) ?_
          (try simp only [Act.put, Lp0, Lp1, Lp2])
          refine' tkA (i := 36) rfl (by decide +kernel) (Or.inl ⟨by rfl, ?_⟩) (by assumption) (fun _ _ _ h => h) ?_
          rotate_left 1
          ·(intro w_ hSw_; (try dsimp only at hSw_); go_simp; (try with_reducible rfl))
          (try simp only [Act.put, Lp0, Lp1, Lp2])
          -- all is said: the frame is stored and returned
          obtain ⟨⟨HB9, -, -⟩, ⟨k0, k1⟩, ⟨k2, k3⟩, z9, o1, o2⟩ := hKp.out x9 hFm9.gb
          have fk := z9.fr
          have ltk := cell_lt k0
          have HBf := hid (below_set (below_set (below_set (below_set HB9 (Nat.le_refl _) 0 (.slice A1 NH c1)) (Nat.le_refl _) 1 (.slice A2 NV c2)) (Nat.le_refl _) 2 (.slice (some ⟨bo, oo, none⟩) NH c7)) (Nat.le_refl _) 3 (.slice (some ⟨bs, os, none⟩) NV c8))
          have hwu : w.heap.size < u.heap.size := by omega
          have hwv : w.heap.size < v.heap.size := by omega
          have hwy : w.heap.size < y.heap.size := by omega
          have hgg : ∀ g ∈ go ++ gs, w.heap.size ≠ g := fun g h => by have := hFm9.gt g h; omega
          have f1 := hid (own_off (i := 3) (u := .slice (some ⟨bs, os, none⟩) NV c8) (own_off (i := 2) (u := .slice (some ⟨bo, oo, none⟩) NH c7) (own_off (i := 1) (u := .slice A2 NV c2) (own_off (i := 0) (u := .slice A1 NH c1) o1 hwu) hwu) hwu) hwu)
          have f2 := hid (own_off (i := 3) (u := .slice (some ⟨bs, os, none⟩) NV c8) (own_off (i := 2) (u := .slice (some ⟨bo, oo, none⟩) NH c7) (own_off (i := 1) (u := .slice A2 NV c2) (own_off (i := 0) (u := .slice A1 NH c1) o2 hwv) hwv) hwv) hwv)
          have f3 := hid (own_off (i := 3) (u := .slice (some ⟨bs, os, none⟩) NV c8) (own_off (i := 2) (u := .slice (some ⟨bo, oo, none⟩) NH c7) (own_off (i := 1) (u := .slice A2 NV c2) (own_off (i := 0) (u := .slice A1 NH c1) hFm9.oo hwy) hwy) hwy) hwy)
          have f4 := hid (own_off (i := 3) (u := .slice (some ⟨bs, os, none⟩) NV c8) (own_off (i := 2) (u := .slice (some ⟨bo, oo, none⟩) NH c7) (own_off (i := 1) (u := .slice A2 NV c2) (own_off (i := 0) (u := .slice A1 NH c1) hFm9.so hwy) hwy) hwy) hwy)
          have f5 := hid ((((hFm9.op.off (i := 0) (u := .slice A1 NH c1) fun g h => hgg g (List.mem_append_left _ h)).off (i := 1) (u := .slice A2 NV c2) fun g h => hgg g (List.mem_append_left _ h)).off (i := 2) (u := .slice (some ⟨bo, oo, none⟩) NH c7) fun g h => hgg g (List.mem_append_left _ h)).off (i := 3) (u := .slice (some ⟨bs, os, none⟩) NV c8) fun g h => hgg g (List.mem_append_left _ h))
          have f6 := hid ((((hFm9.sp.off (i := 0) (u := .slice A1 NH c1) fun g h => hgg g (List.mem_append_right _ h)).off (i := 1) (u := .slice A2 NV c2) fun g h => hgg g (List.mem_append_right _ h)).off (i := 2) (u := .slice (some ⟨bo, oo, none⟩) NH c7) fun g h => hgg g (List.mem_append_right _ h)).off (i := 3) (u := .slice (some ⟨bs, os, none⟩) NV c8) fun g h => hgg g (List.mem_append_right _ h))
          have hq2 := hid (show q = none from hqe.out)
          clear HB9 z9 o1 o2 hKp hgg hM hF hqe hFm9
          refine brA (i := 37) (by decide +kernel) rfl (fun K hK => ?_)
          go_simp
          (try go_wp2_with fail)
          refine hK.out _ _ ?_ (fun hHeld => ?_)
          ·exact ⟨⟨⟨keep_set hwgf (keep_set hwgf (keep_set hwgf (keep_set hwgf hHeld.1.1.1))), keep_set hwgf (keep_set hwgf (keep_set hwgf (keep_set hwgf hHeld.1.1.2)))⟩, keep_set hwgf (keep_set hwgf (keep_set hwgf (keep_set hwgf hHeld.1.2.1))), keep_set hwgf (keep_set hwgf (keep_set hwgf (keep_set hwgf hHeld.1.2.2)))⟩, ⟨keep_set hwbo (keep_set hwbo (keep_set hwbo (keep_set hwbo hHeld.2.1.1))), keep_set hwbo (keep_set hwbo (keep_set hwbo (keep_set hwbo hHeld.2.1.2)))⟩, keep_set hwbs (keep_set hwbs (keep_set hwbs (keep_set hwbs hHeld.2.2.1))), keep_set hwbs (keep_set hwbs (keep_set hwbs (keep_set hwbs hHeld.2.2.2)))⟩
          clear hK K
          (try simp only [Act.put, Lp0, Lp1, Lp2])
          refine' tkA (i := 38) rfl (by decide +kernel) (Or.inl ⟨by rfl, ?_⟩) (by assumption) (fun _ _ _ h => h) ?_
          rotate_left 1
          ·(intro w_ hSw_; (try dsimp only at hSw_); go_simp; (try with_reducible rfl))
          (try simp only [Act.put, Lp0, Lp1, Lp2])
          refine wpAnyH_done (by decide +kernel) ?_ _
          go_wp2_with fail
          refine bodyPost_ret (v := .tuple #[.agg #[.slice A1 NH c1, .slice A2 NV c2, .slice (some ⟨bo, oo, none⟩) NH c7, .slice (some ⟨bs, os, none⟩) NV c8], .bool false]) ?_ rfl ?_
          ·simp [results, Tryz.results41, go_sem, k0, k1, k2, k3]
          ·exact hfin.out _ _ _ _ _ _ _ _ _ _ _ _ _ _ (by rw [hq2.out]; rfl) (fun s' h => by
            first
             | (rw [hq2.out] at h; cases h; done)
             | (rw [hq2.out] at h; injection h with h; subst h; exact ⟨⟨rfl, rfl⟩, ⟨(f1.out.rd2 PtKo).1, (f2.out.rd2 PtKo).1⟩, ⟨go, hgo.out.symm, by rw [hK1]; exact (f3.out.rd2 (SlKo K1)).1, f5.out⟩, ⟨gs, hgs.out.symm, by rw [hK2]; exact (f4.out.rd2 (SlKo K2)).1, f6.out⟩⟩)) HBf.out
         ·rw [Bool.true_and] at hqe
          refine' tkA (i := 9) rfl (by decide +kernel) (Or.inl ⟨by rfl, ?_⟩) (by assumption) (fun _ _ _ h => h) ?_
          rotate_left 1
          ·(intro w_ hSw_; (try dsimp only at hSw_); go_simp; (try with_reducible rfl))
          (try simp only [Act.put, Lp0, Lp1, Lp2])
          refine' tkA (i := 10) rfl (by decide +kernel) (Or.inl ⟨by rfl, ?_⟩) (by assumption) (fun _ _ _ h => h) ?_
          rotate_left 1
          ·(intro w_ hSw_; (try dsimp only at hSw_); go_simp; (try with_reducible rfl))
          (try simp only [Act.put, Lp0, Lp1, Lp2])
          refine' tkA (i := 11) rfl (by decide +kernel) (Or.inl ⟨by rfl, ?_⟩) (by assumption) (fun _ _ _ h => h) ?_
          rotate_left 1
          ·(intro w_ hSw_; (try dsimp only at hSw_); go_simp; (try with_reducible rfl))
          (try simp only [Act.put, Lp0, Lp1, Lp2])
          refine' tkA (i := 12) rfl (by decide +kernel) (Or.inl ⟨by rfl, ?_⟩) (by assumption) (fun _ _ _ h => h) ?_
          rotate_left 1
          ·(intro w_ hSw_; (try dsimp only at hSw_); go_simp; (try with_reducible rfl))
          (try simp only [Act.put, Lp0, Lp1, Lp2])
          refine' tkA (i := 13) rfl (by decide +kernel) (Or.inl ⟨by rfl, ?_⟩) (by assumption) (fun _ _ _ h => h) ?_
          rotate_left 1
          ·(intro w_ hSw_; (try dsimp only at hSw_); go_simp; (try with_reducible rfl))
          (try simp only [Act.put, Lp0, Lp1, Lp2])
          refine' tkA (i := 14) rfl (by decide +kernel) (Or.inl ⟨by rfl, ?_⟩) (by assumption) (fun _ _ _ h => h) ?_
          rotate_left 1
          ·(intro w_ hSw_; (try dsimp only at hSw_); go_simp; (try with_reducible rfl))
          (try simp only [Act.put, Lp0, Lp1, Lp2])
          refine' tkA (i := 15) rfl (by decide +kernel) (Or.inl ⟨by rfl, ?_⟩) (by assumption) (fun _ _ _ h => h) ?_
          rotate_left 1
          ·(intro w_ hSw_; (try dsimp only at hSw_); go_simp; (try with_reducible rfl))
          (try simp only [Act.put, Lp0, Lp1, Lp2])
          refine' tkA (i := 16) rfl (by decide +kernel) (Or.inl ⟨by rfl, ?_⟩) (by assumption) (fun _ _ _ h => h) ?_
          rotate_left 1
          ·(intro w_ hSw_; (try dsimp only at hSw_); go_simp; (try with_reducible rfl))
          (try simp only [Act.put, Lp0, Lp1, Lp2])
          refine' tkA (i := 17) rfl (by decide +kernel) (Or.inl ⟨by rfl, ?_⟩) (by assumption) (fun _ _ _ h => h) ?_
          rotate_left 1
          ·(intro w_ hSw_; (try dsimp only at hSw_); go_simp; (try with_reducible rfl))
          (try simp only [Act.put, Lp0, Lp1, Lp2])
          refine brA (i := 18) (by decide +kernel) rfl (fun K hK => ?_)
          go_simp
          (refine (hU2.out x1 hd1).mono ?_; rintro e x2 ⟨rfl, hq1⟩)
          (try go_wp2_with fail)
          refine hK.out _ _ ?_ (fun hHeld => ?_)
          ·exact ⟨⟨⟨keep_cell hq1 hHeld.1.1.1, keep_cell hq1 hHeld.1.1.2⟩, keep_cell hq1 hHeld.1.2.1, keep_cell hq1 hHeld.1.2.2⟩, ⟨keep_cell hq1 hHeld.2.1.1, keep_cell hq1 hHeld.2.1.2⟩, keep_cell hq1 hHeld.2.2.1, keep_cell hq1 hHeld.2.2.2⟩
          clear hK K
          (try simp only [Act.put, Lp0, Lp1, Lp2])
          have hd2 := bel_step hd1 hq1
          clear hq1
          cases F2
          ·simp only [Bool.false_and] at hqe
           obtain ⟨x9, hx9⟩ : ∃ x, x = x2 := ⟨_, rfl⟩
           subst hx9
           have hFm9 := hFm.below hd2
           clear hFm m0 m1 m2 m3 r0 r1 r2 r3 hU1 hU2 hU3 hU4
           refine' tkA (i := 19) rfl (by decide +kernel) (Or.inl ⟨by rfl, ?_⟩) (by assumption) (fun _ _ _ h => h) ?_
           rotate_left 1
           ·(intro w_ hSw_; (try dsimp only at hSw_); go_simp; (try with_reducible rfl))
           (try simp only [Act.put, Lp0, Lp1, Lp2])
           refine' tkA (i := 20) rfl (by decide +kernel) (Or.inl ⟨by rfl, ?_⟩) (by assumption) (fun _ _ _ h => h) ?_
           rotate_left 1
           ·(intro w_ hSw_; (try dsimp only at hSw_); go_simp; (try with_reducible rfl))
           (try simp only [Act.put, Lp0, Lp1, Lp2])
           refine tkA (i := 21) (v := undef) rfl (by decide +kernel) (Or.inr ⟨by rfl, rfl⟩) (by assumption) (fun _ _ _ h => h) ?_
           (try simp only [Act.put, Lp0, Lp1, Lp2])
           refine tkA (i := 22) (v := undef) rfl (by decide +kernel) (Or.inr ⟨by rfl, rfl⟩) (by assumption) (fun _ _ _ h => h) ?_
           (try simp only [Act.put, Lp0, Lp1, Lp2])
           refine tkA (i := 23) (v := undef) rfl (by decide +kernel) (Or.inr ⟨by rfl, rfl⟩) (by assumption) (fun _ _ _ h => h) ?_
           (try simp only [Act.put, Lp0, Lp1, Lp2])
           refine tkA (i := 24) (v := undef) rfl (by decide +kernel) (Or.inr ⟨by rfl, rfl⟩) (by assumption) (fun _ _ _ h => h) ?_
           (try simp only [Act.put, Lp0, Lp1, Lp2])
           refine tkA (i := 25) (v := undef) rfl (by decide +kernel) (Or.inr ⟨by rfl, rfl⟩) (by assumption) (fun _ _ _ h => h) ?_
           (try simp only [Act.put, Lp0, Lp1, Lp2])
           refine' tkA (i := 26) rfl (by decide +kernel) (Or.inl ⟨by rfl, ?_⟩) (by assumption) (fun _ _ _ h => h) ?_
           rotate_left 1
           ·(intro w_ hSw_; (try dsimp only at hSw_); go_simp; (try with_reducible rfl))
           (try simp only [Act.put, Lp0, Lp1, Lp2])
           refine' tkA (i := 27) rfl (by decide +kernel) (Or.inl ⟨by rfl, ?_⟩) (by assumption) (fun _ _ _ h => h) ?_
           rotate_left 1
           ·(intro w_ hSw_; (try dsimp only at hSw_); go_simp; (try with_reducible rfl))
           (try simp only [Act.put, Lp0, Lp1, Lp2])
           refine tkA (i := 28) (v := undef) rfl (by decide +kernel) (Or.inr ⟨by rfl, rfl⟩) (by assumption) (fun _ _ _ h => h) ?_
           (try simp only [Act.put, Lp0, Lp1, Lp2])
           refine tkA (i := 29) (v := undef) rfl (by decide +kernel) (Or.inr ⟨by rfl, rfl⟩) (by assumption) (fun _ _ _ h => h) ?_
           (try simp only [Act.put, Lp0, Lp1, Lp2])
           refine tkA (i := 30) (v := undef) rfl (by decide +kernel) (Or.inr ⟨by rfl, rfl⟩) (by assumption) (fun _ _ _ h => h) ?_
           (try simp only [Act.put, Lp0, Lp1, Lp2])
           refine tkA (i := 31) (v := undef) rfl (by decide +kernel) (Or.inr ⟨by rfl, rfl⟩) (by assumption) (fun _ _ _ h => h) ?_
           (try simp only [Act.put, Lp0, Lp1, Lp2])
           refine tkA (i := 32) (v := undef) rfl (by decide +kernel) (Or.inr ⟨by rfl, rfl⟩) (by assumption) (fun _ _ _ h => h) ?_
           (try simp only [Act.put, Lp0, Lp1, Lp2])
           refine tkA (i := 33) (v := undef) rfl (by decide +kernel) (Or.inr ⟨by rfl, rfl⟩) (by assumption) (fun _ _ _ h => h) ?_
           (try simp only [Act.put, Lp0, Lp1, Lp2])
           refine tkA (i := 34) (v := undef) rfl (by decide +kernel) (Or.inr ⟨by rfl, rfl⟩) (by assumption) (fun _ _ _ h => h) ?_
           (try simp only [Act.put, Lp0, Lp1, Lp2])
           refine tkA (i := 35) (v := undef) rfl (by decide +kernel) (Or.inr ⟨by rfl, rfl⟩) (by assumption) (fun _ _ _ h => h) ?_
           (try simp only [Act.put, Lp0, Lp1, Lp2])
           refine' tkA (i := 36) rfl (by decide +kernel) (Or.inl ⟨by rfl, ?_⟩) (by assumption) (fun _ _ _ h => h) ?_
           rotate_left 1
           ·(intro w_ hSw_; (try dsimp only at hSw_); go_simp; (try with_reducible rfl))
           (try simp only [Act.put, Lp0, Lp1, Lp2])
           -- all is said: the frame is stored and returned
           obtain ⟨⟨HB9, -, -⟩, ⟨k0, k1⟩, ⟨k2, k3⟩, z9, o1, o2⟩ := hKp.out x9 hFm9.gb
           have fk := z9.fr
           have ltk := cell_lt k0
           have HBf := hid (below_set (below_set (below_set (below_set HB9 (Nat.le_refl _) 0 (.slice A1 NH c1)) (Nat.le_refl _) 1 (.slice A2 NV c2)) (Nat.le_refl _) 2 (.slice (some ⟨bo, oo, none⟩) NH c7)) (Nat.le_refl _) 3 (.slice (some ⟨bs, os, none⟩) NV c8))
           have hwu : w.heap.size < u.heap.size := by omega
           have hwv : w.heap.size < v.heap.size := by omega
           have hwy : w.heap.size < y.heap.size := by omega
           have hgg : ∀ g ∈ go ++ gs, w.heap.size ≠ g := fun g h => by have := hFm9.gt g h; omega
           have f1 := hid (own_off (i := 3) (u := .slice (some ⟨bs, os, none⟩) NV c8) (own_off (i := 2) (u := .slice (some ⟨bo, oo, none⟩) NH c7) (own_off (i := 1) (u := .slice A2 NV c2) (own_off (i := 0) (u := .slice A1 NH c1) o1 hwu) hwu) hwu) hwu)
           have f2 := hid (own_off (i := 3) (u := .slice (some ⟨bs, os, none⟩) NV c8) (own_off (i := 2) (u := .slice (some ⟨bo, oo, none⟩) NH c7) (own_off (i := 1) (u := .slice A2 NV c2) (own_off (i := 0) (u := .slice A1 NH c1) o2 hwv) hwv) hwv) hwv)
           have f3 := hid (own_off (i := 3) (u := .slice (some ⟨bs, os, none⟩) NV c8) (own_off (i := 2) (u := .slice (some ⟨bo, oo, none⟩) NH c7) (own_off (i := 1) (u := .slice A2 NV c2) (own_off (i := 0) (u := .slice A1 NH c1) hFm9.oo hwy) hwy) hwy) hwy)
           have f4 := hid (own_off (i := 3) (u := .slice (some ⟨bs, os, none⟩) NV c8) (own_off (i := 2) (u := .slice (some ⟨bo, oo, none⟩) NH c7) (own_off (i := 1) (u := .slice A2 NV c2) (own_off (i := 0) (u := .slice A1 NH c1) hFm9.so hwy) hwy) hwy) hwy)
           have f5 := hid ((((hFm9.op.off (i := 0) (u := .slice A1 NH c1) fun g h => hgg g (List.mem_append_left _ h)).off (i := 1) (u := .slice A2 NV c2) fun g h => hgg g (List.mem_append_left _ h)).off (i := 2) (u := .slice (some ⟨bo, oo, none⟩) NH c7) fun g h => hgg g (List.mem_append_left _ h)).off (i := 3) (u := .slice (some ⟨bs, os, none⟩) NV c8) fun g h => hgg g (List.mem_append_left _ h))
           have f6 := hid ((((hFm9.sp.off (i := 0) (u := .slice A1 NH c1) fun g h => hgg g (List.mem_append_right _ h)).off (i := 1) (u := .slice A2 NV c2) fun g h => hgg g (List.mem_append_right _ h)).off (i := 2) (u := .slice (some ⟨bo, oo, none⟩) NH c7) fun g h => hgg g (List.mem_append_right _ h)).off (i := 3) (u := .slice (some ⟨bs, os, none⟩) NV c8) fun g h => hgg g (List.mem_append_right _ h))
           have hq2 := hid (show q = none from hqe.out)
           clear HB9 z9 o1 o2 hKp hgg hM hF hqe hFm9
           refine brA (i := 37) (by decide +kernel) rfl (fun K hK => ?_)
           go_simp
           (try go_wp2_with fail)
           refine hK.out _ _ ?_ (fun hHeld => ?_)
           ·exact ⟨⟨⟨keep_set hwgf (keep_set hwgf (keep_set hwgf (keep_set hwgf hHeld.1.1.1))), keep_set hwgf (keep_set hwgf (keep_set hwgf (keep_set hwgf hHeld.1.1.2)))⟩, keep_set hwgf (keep_set hwgf (keep_set hwgf (keep_set hwgf hHeld.1.2.1))), keep_set hwgf (keep_set hwgf (keep_set hwgf (keep_set hwgf hHeld.1.2.2)))⟩, ⟨keep_set hwbo (keep_set hwbo (keep_set hwbo (keep_set hwbo hHeld.2.1.1))), keep_set hwbo (keep_set hwbo (keep_set hwbo (keep_set hwbo hHeld.2.1.2)))⟩, keep_set hwbs (keep_set hwbs (keep_set hwbs (keep_set hwbs hHeld.2.2.1))), keep_set hwbs (keep_set hwbs (keep_set hwbs (keep_set hwbs hHeld.2.2.2)))⟩
           clear hK K
           (try simp only [Act.put, Lp0, Lp1, Lp2])
           refine' tkA (i := 38) rfl (by decide +kernel) (Or.inl ⟨by rfl, ?_⟩) (by assumption) (fun _ _ _ h => h) ?_
           rotate_left 1
           ·(intro w_ hSw_; (try dsimp only at hSw_); go_simp; (try with_reducible rfl))
           (try simp only [Act.put, Lp0, Lp1, Lp2])
           refine wpAnyH_done (by decide +kernel) ?_ _
           go_wp2_with fail
           refine bodyPost_ret (v := .tuple #[.agg #[.slice A1 NH c1, .slice A2 NV c2, .slice (some ⟨bo, oo, none⟩) NH c7, .slice (some ⟨bs, os, none⟩) NV c8], .bool false]) ?_ rfl ?_
           ·simp [results, Tryz.results41, go_sem, k0, k1, k2, k3]
           ·exact hfin.out _ _ _ _ _ _ _ _ _ _ _ _ _ _ (by rw [hq2.out]; rfl) (fun s' h => by
             first
              | (rw [hq2.out] at h; cases h; done)
              | (rw [hq2.out] at h; injection h with h; subst h; exact ⟨⟨rfl, rfl⟩, ⟨(f1.out.rd2 PtKo).1, (f2.out.rd2 PtKo).1⟩, ⟨go, hgo.out.symm, by rw [hK1]; exact (f3.out.rd2 (SlKo K1)).1, f5.out⟩, ⟨gs, hgs.out.symm, by rw [hK2]; exact (f4.out.rd2 (SlKo K2)).1, f6.out⟩⟩)) HBf.out
          ·rw [Bool.true_and] at hqe
           refine' tkA (i := 19) rfl (by decide +kernel) (Or.inl ⟨by rfl, ?_⟩) (by assumption) (fun _ _ _ h => h) ?_
           rotate_left 1
           ·(intro w_ hSw_; (try dsimp only at hSw_); go_simp; (try with_reducible rfl))
           (try simp only [Act.put, Lp0, Lp1, Lp2])
           refine' tkA (i := 20) rfl (by decide +kernel) (Or.inl ⟨by rfl, ?_⟩) (by assumption) (fun _ _ _ h => h) ?_
           rotate_left 1
           ·(intro w_ hSw_; (try dsimp only at hSw_); go_simp; (try with_reducible rfl))
           (try simp only [Act.put, Lp0, Lp1, Lp2])
           refine' tkA (i := 21) rfl (by decide +kernel) (Or.inl ⟨by rfl, ?_⟩) (by assumption) (fun _ _ _ h => h) ?_
           rotate_left 1
           ·(intro w_ hSw_; (try dsimp only at hSw_); go_simp; (try with_reducible rfl))
           (try simp only [Act.put, Lp0, Lp1, Lp2])
           refine' tkA (i := 22) rfl (by decide +kernel) (Or.inl ⟨by rfl, ?_⟩) (by assumption) (fun _ _ _ h => h) ?_
           rotate_left 1
           ·(intro w_ hSw_; (try dsimp only at hSw_); go_simp; (try with_reducible rfl))
           (try simp only [Act.put, Lp0, Lp1, Lp2])
           refine' tkA (i := 23) rfl (by decide +kernel) (Or.inl ⟨by rfl, ?_⟩) (by assumption) (fun _ _ _ h => h) ?_
           rotate_left 1
           ·(intro w_ hSw_; (try dsimp only at hSw_); go_simp; (try with_reducible rfl))
           (try simp only [Act.put, Lp0, Lp1, Lp2])
           refine' tkA (i := 24) rfl (by decide +kernel) (Or.inl ⟨by rfl, ?_⟩) (by assumption) (fun _ _ _ h => h) ?_
           rotate_left 1
           ·(intro w_ hSw_; (try dsimp only at hSw_); go_simp; (try with_reducible rfl))
           (try simp only [Act.put, Lp0, Lp1, Lp2])
           refine brA (i := 25) (by decide +kernel) rfl (fun K hK => ?_)
           go_simp
           (refine (hU3.out x2 hd2).mono ?_; rintro e x3 ⟨rfl, hq1⟩)
           (try go_wp2_with fail)
           refine hK.out _ _ ?_ (fun hHeld => ?_)
           ·exact ⟨⟨⟨keep_cell hq1 hHeld.1.1.1, keep_cell hq1 hHeld.1.1.2⟩, keep_cell hq1 hHeld.1.2.1, keep_cell hq1 hHeld.1.2.2⟩, ⟨keep_cell hq1 hHeld.2.1.1, keep_cell hq1 hHeld.2.1.2⟩, keep_cell hq1 hHeld.2.2.1, keep_cell hq1 hHeld.2.2.2⟩
           clear hK K
           (try simp only [Act.put, Lp0, Lp1, Lp2])
           have hd3 := bel_step hd2 hq1
           clear hq1
           cases F3
           ·simp only [Bool.false_and] at hqe
            obtain ⟨x9, hx9⟩ : ∃ x, x = x3 := ⟨_, rfl⟩
            subst hx9
            have hFm9 := hFm.below hd3
            clear hFm m0 m1 m2 m3 r0 r1 r2 r3 hU1 hU2 hU3 hU4
            refine' tkA (i := 26) rfl (by decide +kernel) (Or.inl ⟨by rfl, ?_⟩) (by assumption) (fun _ _ _ h => h) ?_
            rotate_left 1
            ·(intro w_ hSw_; (try dsimp only at hSw_); go_simp; (try with_reducible rfl))
            (try simp only [Act.put, Lp0, Lp1, Lp2])
            refine' tkA (i := 27) rfl (by decide +kernel) (Or.inl ⟨by rfl, ?_⟩) (by assumption) (fun _ _ _ h => h) ?_
            rotate_left 1
            ·(intro w_ hSw_; (try dsimp only at hSw_); go_simp; (try with_reducible rfl))
            (try simp only [Act.put, Lp0, Lp1, Lp2])
            refine tkA (i := 28) (v := undef) rfl (by decide +kernel) (Or.inr ⟨by rfl, rfl⟩) (by assumption) (fun _ _ _ h => h) ?_
            (try simp only [Act.put, Lp0, Lp1, Lp2])
            refine tkA (i := 29) (v := undef) rfl (by decide +kernel) (Or.inr ⟨by rfl, rfl⟩) (by assumption) (fun _ _ _ h => h) ?_
            (try simp only [Act.put, Lp0, Lp1, Lp2])
            refine tkA (i := 30) (v := undef) rfl (by decide +kernel) (Or.inr ⟨by rfl, rfl⟩) (by assumption) (fun _ _ _ h => h) ?_
            (try simp only [Act.put, Lp0, Lp1, Lp2])
            refine tkA (i := 31) (v := undef) rfl (by decide +kernel) (Or.inr ⟨by rfl, rfl⟩) (by assumption) (fun _ _ _ h => h) ?_
            (try simp only [Act.put, Lp0, Lp1, Lp2])
            refine tkA (i := 32) (v := undef) rfl (by decide +kernel) (Or.inr ⟨by rfl, rfl⟩) (by assumption) (fun _ _ _ h => h) ?_
            (try simp only [Act.put, Lp0, Lp1, Lp2])
            refine tkA (i := 33) (v := undef) rfl (by decide +kernel) (Or.inr ⟨by rfl, rfl⟩) (by assumption) (fun _ _ _ h => h) ?_
            (try simp only [Act.put, Lp0, Lp1, Lp2])
            refine tkA (i := 34) (v := undef) rfl (by decide +kernel) (Or.inr ⟨by rfl, rfl⟩) (by assumption) (fun _ _ _ h => h) ?_
            (try simp only [Act.put, Lp0, Lp1, Lp2])
            refine tkA (i := 35) (v := undef) rfl (by decide +kernel) (Or.inr ⟨by rfl, rfl⟩) (by assumption) (fun _ _ _ h => h) ?_
            (try simp only [Act.put, Lp0, Lp1, Lp2])
            refine' tkA (i := 36) rfl (by decide +kernel) (Or.inl ⟨by rfl, ?_⟩) (by assumption) (fun _ _ _ h => h) ?_
            rotate_left 1
            ·(intro w_ hSw_; (try dsimp only at hSw_); go_simp; (try with_reducible rfl))
            (try simp only [Act.put, Lp0, Lp1, Lp2])
            -- all is said: the frame is stored and returned
            obtain ⟨⟨HB9, -, -⟩, ⟨k0, k1⟩, ⟨k2, k3⟩, z9, o1, o2⟩ := hKp.out x9 hFm9.gb
            have fk := z9.fr
            have ltk := cell_lt k0
            have HBf := hid (below_set (below_set (below_set (below_set HB9 (Nat.le_refl _) 0 (.slice A1 NH c1)) (Nat.le_refl _) 1 (.slice A2 NV c2)) (Nat.le_refl _) 2 (.slice (some ⟨bo, oo, none⟩) NH c7)) (Nat.le_refl _) 3 (.slice (some ⟨bs, os, none⟩) NV c8))
            have hwu : w.heap.size < u.heap.size := by omega
            have hwv : w.heap.size < v.heap.size := by omega
            have hwy : w.heap.size < y.heap.size := by omega
            have hgg : ∀ g ∈ go ++ gs, w.heap.size ≠ g := fun g h => by have := hFm9.gt g h; omega
            have f1 := hid (own_off (i := 3) (u := .slice (some ⟨bs, os, none⟩) NV c8) (own_off (i := 2) (u := .slice (some ⟨bo, oo, none⟩) NH c7) (own_off (i := 1) (u := .slice A2 NV c2) (own_off (i := 0) (u := .slice A1 NH c1) o1 hwu) hwu) hwu) hwu)
            have f2 := hid (own_off (i := 3) (u := .slice (some ⟨bs, os, none⟩) NV c8) (own_off (i := 2) (u := .slice (some ⟨bo, oo, none⟩) NH c7) (own_off (i := 1) (u := .slice A2 NV c2) (own_off (i := 0) (u := .slice A1 NH c1) o2 hwv) hwv) hwv) hwv)
            have f3 := hid (own_off (i := 3) (u := .slice (some ⟨bs, os, none⟩) NV c8) (own_off (i := 2) (u := .slice (some ⟨bo, oo, none⟩) NH c7) (own_off (i := 1) (u := .slice A2 NV c2) (own_off (i := 0) (u := .slice A1 NH c1) hFm9.oo hwy) hwy) hwy) hwy)
            have f4 := hid (own_off (i := 3) (u := .slice (some ⟨bs, os, none⟩) NV c8) (own_off (i := 2) (u := .slice (some ⟨bo, oo, none⟩) NH c7) (own_off (i := 1) (u := .slice A2 NV c2) (own_off (i := 0) (u := .slice A1 NH c1) hFm9.so hwy) hwy) hwy) hwy)
            have f5 := hid ((((hFm9.op.off (i := 0) (u := .slice A1 NH c1) fun g h => hgg g (List.mem_append_left _ h)).off (i := 1) (u := .slice A2 NV c2) fun g h => hgg g (List.mem_append_left _ h)).off (i := 2) (u := .slice (some ⟨bo, oo, none⟩) NH c7) fun g h => hgg g (List.mem_append_left _ h)).off (i := 3) (u := .slice (some ⟨bs, os, none⟩) NV c8) fun g h => hgg g (List.mem_append_left _ h))
            have f6 := hid ((((hFm9.sp.off (i := 0) (u := .slice A1 NH c1) fun g h => hgg g (List.mem_append_right _ h)).off (i := 1) (u := .slice A2 NV c2) fun g h => hgg g (List.mem_append_right _ h)).off (i := 2) (u := .slice (some ⟨bo, oo, none⟩) NH c7) fun g h => hgg g (List.mem_append_right _ h)).off (i := 3) (u := .slice (some ⟨bs, os, none⟩) NV c8) fun g h => hgg g (List.mem_append_right _ h))
            have hq2 := hid (show q = none from hqe.out)
            clear HB9 z9 o1 o2 hKp hgg hM hF hqe hFm9
            refine brA (i := 37) (by decide +kernel) rfl (fun K hK => ?_)
            go_simp
            (try go_wp2_with fail)
            refine hK.out _ _ ?_ (fun hHeld => ?_)
            ·exact ⟨⟨⟨keep_set hwgf (keep_set hwgf (keep_set hwgf (keep_set hwgf hHeld.1.1.1))), keep_set hwgf (keep_set hwgf (keep_set hwgf (keep_set hwgf hHeld.1.1.2)))⟩, keep_set hwgf (keep_set hwgf (keep_set hwgf (keep_set hwgf hHeld.1.2.1))), keep_set hwgf (keep_set hwgf (keep_set hwgf (keep_set hwgf hHeld.1.2.2)))⟩, ⟨keep_set hwbo (keep_set hwbo (keep_set hwbo (keep_set hwbo hHeld.2.1.1))), keep_set hwbo (keep_set hwbo (keep_set hwbo (keep_set hwbo hHeld.2.1.2)))⟩, keep_set hwbs (keep_set hwbs (keep_set hwbs (keep_set hwbs hHeld.2.2.1))), keep_set hwbs (keep_set hwbs (keep_set hwbs (keep_set hwbs hHeld.2.2.2)))⟩
            clear hK K
            (try simp only [Act.put, Lp0, Lp1, Lp2])
            refine' tkA (i := 38) rfl (by decide +kernel) (Or.inl ⟨by rfl, ?_⟩) (by assumption) (fun _ _ _ h => h) ?_
            rotate_left 1
            ·(intro w_ hSw_; (try dsimp only at hSw_); go_simp; (try with_reducible rfl))
            (try simp only [Act.put, Lp0, Lp1, Lp2])
            refine wpAnyH_done (by decide +kernel) ?_ _
            go_wp2_with fail
            refine bodyPost_ret (v := .tuple #[.agg #[.slice A1 NH c1, .slice A2 NV c2, .slice (some ⟨bo, oo, none⟩) NH c7, .slice (some ⟨bs, os, none⟩) NV c8], .bool false]) ?_ rfl ?_
            ·simp [results, Tryz.results41, go_sem, k0, k1, k2, k3]
            ·exact hfin.out _ _ _ _ _ _ _ _ _ _ _ _ _ _ (by rw [hq2.out]; rfl) (fun s' h => by
              first
               | (rw [hq2.out] at h; cases h; done)
               | (rw [hq2.out] at h; injection h with h; subst h; exact ⟨⟨rfl, rfl⟩, ⟨(f1.out.rd2 PtKo).1, (f2.out.rd2 PtKo).1⟩, ⟨go, hgo.out.symm, by rw [hK1]; exact (f3.out.rd2 (SlKo K1)).1, f5.out⟩, ⟨gs, hgs.out.symm, by rw [hK2]; exact (f4.out.rd2 (SlKo K2)).1, f6.out⟩⟩)) HBf.out
           ·rw [Bool.true_and] at hqe
            refine' tkA (i := 26) rfl (by decide +kernel) (Or.inl ⟨by rfl, ?_⟩) (by assumption) (fun _ _ _ h => h) ?_
            rotate_left 1
            ·(intro w_ hSw_; (try dsimp only at hSw_); go_simp; (try with_reducible rfl))
            (try simp only [Act.put, Lp0, Lp1, Lp2])
            refine' tkA (i := 27) rfl (by decide +kernel) (Or.inl ⟨by rfl, ?_⟩) (by assumption) (fun _ _ _ h => h) ?_
            rotate_left 1
            ·(intro w_ hSw_; (try dsimp only at hSw_); go_simp; (try with_reducible rfl))
            (try simp only [Act.put, Lp0, Lp1, Lp2])
            refine' tkA (i := 28) rfl (by decide +kernel) (Or.inl ⟨by rfl, ?_⟩) (by assumption) (fun _ _ _ h => h) ?_
            rotate_left 1
            ·(intro w_ hSw_; (try dsimp only at hSw_); go_simp; (try with_reducible rfl))
            (try simp only [Act.put, Lp0, Lp1, Lp2])
            refine' tkA (i := 29) rfl (by decide +kernel) (Or.inl ⟨by rfl, ?_⟩) (by assumption) (fun _ _ _ h => h) ?_
            rotate_left 1
            ·(intro w_ hSw_; (try dsimp only at hSw_); go_simp; (try with_reducible rfl))
            (try simp only [Act.put, Lp0, Lp1, Lp2])
            refine' tkA (i := 30) rfl (by decide +kernel) (Or.inl ⟨by rfl, ?_⟩) (by assumption) (fun _ _ _ h => h) ?_
            rotate_left 1
            ·(intro w_ hSw_; (try dsimp only at hSw_); go_simp; (try with_reducible rfl))
            (try simp only [Act.put, Lp0, Lp1, Lp2])
            refine' tkA (i := 31) rfl (by decide +kernel) (Or.inl ⟨by rfl, ?_⟩) (by assumption) (fun _ _ _ h => h) ?_
            rotate_left 1
            ·(intro w_ hSw_; (try dsimp only at hSw_); go_simp; (try with_reducible rfl))
            (try simp only [Act.put, Lp0, Lp1, Lp2])
            refine' tkA (i := 32) rfl (by decide +kernel) (Or.inl ⟨by rfl, ?_⟩) (by assumption) (fun _ _ _ h => h) ?_
            rotate_left 1
            ·(intro w_ hSw_; (try dsimp only at hSw_); go_simp; (try with_reducible rfl))
            (try simp only [Act.put, Lp0, Lp1, Lp2])
            refine' tkA (i := 33) rfl (by decide +kernel) (Or.inl ⟨by rfl, ?_⟩) (by assumption) (fun _ _ _ h => h) ?_
            rotate_left 1
            ·(intro w_ hSw_; (try dsimp only at hSw_); go_simp; (try with_reducible rfl))
            (try simp only [Act.put, Lp0, Lp1, Lp2])
            refine' tkA (i := 34) rfl (by decide +kernel) (Or.inl ⟨by rfl, ?_⟩) (by assumption) (fun _ _ _ h => h) ?_
            rotate_left 1
            ·(intro w_ hSw_; (try dsimp only at hSw_); go_simp; (try with_reducible rfl))
            (try simp only [Act.put, Lp0, Lp1, Lp2])
            refine brA (i := 35) (by decide +kernel) rfl (fun K hK => ?_)
            go_simp
            (refine (hU4.out x3 hd3).mono ?_; rintro e x4 ⟨rfl, hq1⟩)
            (try go_wp2_with fail)
            refine hK.out _ _ ?_ (fun hHeld => ?_)
            ·exact ⟨⟨⟨keep_cell hq1 hHeld.1.1.1, keep_cell hq1 hHeld.1.1.2⟩, keep_cell hq1 hHeld.1.2.1, keep_cell hq1 hHeld.1.2.2⟩, ⟨keep_cell hq1 hHeld.2.1.1, keep_cell hq1 hHeld.2.1.2⟩, keep_cell hq1 hHeld.2.2.1, keep_cell hq1 hHeld.2.2.2⟩
            clear hK K
            (try simp only [Act.put, Lp0, Lp1, Lp2])
            have hd4 := bel_step hd3 hq1
            clear hq1
            cases F4
            ·simp only [Bool.false_eq_true, if_false] at hqe
             obtain ⟨x9, hx9⟩ : ∃ x, x = x4 := ⟨_, rfl⟩
             subst hx9
             have hFm9 := hFm.below hd4
             clear hFm m0 m1 m2 m3 r0 r1 r2 r3 hU1 hU2 hU3 hU4
             refine' tkA (i := 36) rfl (by decide +kernel) (Or.inl ⟨by rfl, ?_⟩) (by assumption) (fun _ _ _ h => h) ?_
             rotate_left 1
             ·(intro w_ hSw_; (try dsimp only at hSw_); go_simp; (try with_reducible rfl))
             (try simp only [Act.put, Lp0, Lp1, Lp2])
             -- all is said: the frame is stored and returned
             obtain ⟨⟨HB9, -, -⟩, ⟨k0, k1⟩, ⟨k2, k3⟩, z9, o1, o2⟩ := hKp.out x9 hFm9.gb
             have fk := z9.fr
             have ltk := cell_lt k0
             have HBf := hid (below_set (below_set (below_set (below_set HB9 (Nat.le_refl _) 0 (.slice A1 NH c1)) (Nat.le_refl _) 1 (.slice A2 NV c2)) (Nat.le_refl _) 2 (.slice (some ⟨bo, oo, none⟩) NH c7)) (Nat.le_refl _) 3 (.slice (some ⟨bs, os, none⟩) NV c8))
             have hwu : w.heap.size < u.heap.size := by omega
             have hwv : w.heap.size < v.heap.size := by omega
             have hwy : w.heap.size < y.heap.size := by omega
             have hgg : ∀ g ∈ go ++ gs, w.heap.size ≠ g := fun g h => by have := hFm9.gt g h; omega
             have f1 := hid (own_off (i := 3) (u := .slice (some ⟨bs, os, none⟩) NV c8) (own_off (i := 2) (u := .slice (some ⟨bo, oo, none⟩) NH c7) (own_off (i := 1) (u := .slice A2 NV c2) (own_off (i := 0) (u := .slice A1 NH c1) o1 hwu) hwu) hwu) hwu)
             have f2 := hid (own_off (i := 3) (u := .slice (some ⟨bs, os, none⟩) NV c8) (own_off (i := 2) (u := .slice (some ⟨bo, oo, none⟩) NH c7) (own_off (i := 1) (u := .slice A2 NV c2) (own_off (i := 0) (u := .slice A1 NH c1) o2 hwv) hwv) hwv) hwv)
             have f3 := hid (own_off (i := 3) (u := .slice (some ⟨bs, os, none⟩) NV c8) (own_off (i := 2) (u := .slice (some ⟨bo, oo, none⟩) NH c7) (own_off (i := 1) (u := .slice A2 NV c2) (own_off (i := 0) (u := .slice A1 NH c1) hFm9.oo hwy) hwy) hwy) hwy)
             have f4 := hid (own_off (i := 3) (u := .slice (some ⟨bs, os, none⟩) NV c8) (own_off (i := 2) (u := .slice (some ⟨bo, oo, none⟩) NH c7) (own_off (i := 1) (u := .slice A2 NV c2) (own_off (i := 0) (u := .slice A1 NH c1) hFm9.so hwy) hwy) hwy) hwy)
             have f5 := hid ((((hFm9.op.off (i := 0) (u := .slice A1 NH c1) fun g h => hgg g (List.mem_append_left _ h)).off (i := 1) (u := .slice A2 NV c2) fun g h => hgg g (List.mem_append_left _ h)).off (i := 2) (u := .slice (some ⟨bo, oo, none⟩) NH c7) fun g h => hgg g (List.mem_append_left _ h)).off (i := 3) (u := .slice (some ⟨bs, os, none⟩) NV c8) fun g h => hgg g (List.mem_append_left _ h))
             have f6 := hid ((((hFm9.sp.off (i := 0) (u := .slice A1 NH c1) fun g h => hgg g (List.mem_append_right _ h)).off (i := 1) (u := .slice A2 NV c2) fun g h => hgg g (List.mem_append_right _ h)).off (i := 2) (u := .slice (some ⟨bo, oo, none⟩) NH c7) fun g h => hgg g (List.mem_append_right _ h)).off (i := 3) (u := .slice (some ⟨bs, os, none⟩) NV c8) fun g h => hgg g (List.mem_append_right _ h))
             have hq2 := hid (show q = none from hqe.out)
             clear HB9 z9 o1 o2 hKp hgg hM hF hqe hFm9
             refine brA (i := 37) (by decide +kernel) rfl (fun K hK => ?_)
             go_simp
             (try go_wp2_with fail)
             refine hK.out _ _ ?_ (fun hHeld => ?_)
             ·exact ⟨⟨⟨keep_set hwgf (keep_set hwgf (keep_set hwgf (keep_set hwgf hHeld.1.1.1))), keep_set hwgf (keep_set hwgf (keep_set hwgf (keep_set hwgf hHeld.1.1.2)))⟩, keep_set hwgf (keep_set hwgf (keep_set hwgf (keep_set hwgf hHeld.1.2.1))), keep_set hwgf (keep_set hwgf (keep_set hwgf (keep_set hwgf hHeld.1.2.2)))⟩, ⟨keep_set hwbo (keep_set hwbo (keep_set hwbo (keep_set hwbo hHeld.2.1.1))), keep_set hwbo (keep_set hwbo (keep_set hwbo (keep_set hwbo hHeld.2.1.2)))⟩, keep_set hwbs (keep_set hwbs (keep_set hwbs (keep_set hwbs hHeld.2.2.1))), keep_set hwbs (keep_set hwbs (keep_set hwbs (keep_set hwbs hHeld.2.2.2)))⟩
             clear hK K
             (try simp only [Act.put, Lp0, Lp1, Lp2])
             refine' tkA (i := 38) rfl (by decide +kernel) (Or.inl ⟨by rfl, ?_⟩) (by assumption) (fun _ _ _ h => h) ?_
             rotate_left 1
             ·(intro w_ hSw_; (try dsimp only at hSw_); go_simp; (try with_reducible rfl))
             (try simp only [Act.put, Lp0, Lp1, Lp2])
             refine wpAnyH_done (by decide +kernel) ?_ _
             go_wp2_with fail
             refine bodyPost_ret (v := .tuple #[.agg #[.slice A1 NH c1, .slice A2 NV c2, .slice (some ⟨bo, oo, none⟩) NH c7, .slice (some ⟨bs, os, none⟩) NV c8], .bool false]) ?_ rfl ?_
             ·simp [results, Tryz.results41, go_sem, k0, k1, k2, k3]
             ·exact hfin.out _ _ _ _ _ _ _ _ _ _ _ _ _ _ (by rw [hq2.out]; rfl) (fun s' h => by
               first
                | (rw [hq2.out] at h; cases h; done)
                | (rw [hq2.out] at h; injection h with h; subst h; exact ⟨⟨rfl, rfl⟩, ⟨(f1.out.rd2 PtKo).1, (f2.out.rd2 PtKo).1⟩, ⟨go, hgo.out.symm, by rw [hK1]; exact (f3.out.rd2 (SlKo K1)).1, f5.out⟩, ⟨gs, hgs.out.symm, by rw [hK2]; exact (f4.out.rd2 (SlKo K2)).1, f6.out⟩⟩)) HBf.out
            ·simp only [if_true] at hqe
             obtain ⟨x9, hx9⟩ : ∃ x, x = x4 := ⟨_, rfl⟩
             subst hx9
             have hFm9 := hFm.below hd4
             clear hFm m0 m1 m2 m3 r0 r1 r2 r3 hU1 hU2 hU3 hU4
             refine' tkA (i := 36) rfl (by decide +kernel) (Or.inl ⟨by rfl, ?_⟩) (by assumption) (fun _ _ _ h => h) ?_
             rotate_left 1
             ·(intro w_ hSw_; (try dsimp only at hSw_); go_simp; (try with_reducible rfl))
             (try simp only [Act.put, Lp0, Lp1, Lp2])
             -- all is said: the frame is stored and returned
             obtain ⟨⟨HB9, -, -⟩, ⟨k0, k1⟩, ⟨k2, k3⟩, z9, o1, o2⟩ := hKp.out x9 hFm9.gb
             have fk := z9.fr
             have ltk := cell_lt k0
             have HBf := hid (below_set (below_set (below_set (below_set HB9 (Nat.le_refl _) 0 (.slice A1 NH c1)) (Nat.le_refl _) 1 (.slice A2 NV c2)) (Nat.le_refl _) 2 (.slice (some ⟨bo, oo, none⟩) NH c7)) (Nat.le_refl _) 3 (.slice (some ⟨bs, os, none⟩) NV c8))
             have hwu : w.heap.size < u.heap.size := by omega
             have hwv : w.heap.size < v.heap.size := by omega
             have hwy : w.heap.size < y.heap.size := by omega
             have hgg : ∀ g ∈ go ++ gs, w.heap.size ≠ g := fun g h => by have := hFm9.gt g h; omega
             have f1 := hid (own_off (i := 3) (u := .slice (some ⟨bs, os, none⟩) NV c8) (own_off (i := 2) (u := .slice (some ⟨bo, oo, none⟩) NH c7) (own_off (i := 1) (u := .slice A2 NV c2) (own_off (i := 0) (u := .slice A1 NH c1) o1 hwu) hwu) hwu) hwu)
             have f2 := hid (own_off (i := 3) (u := .slice (some ⟨bs, os, none⟩) NV c8) (own_off (i := 2) (u := .slice (some ⟨bo, oo, none⟩) NH c7) (own_off (i := 1) (u := .slice A2 NV c2) (own_off (i := 0) (u := .slice A1 NH c1) o2 hwv) hwv) hwv) hwv)
             have f3 := hid (own_off (i := 3) (u := .slice (some ⟨bs, os, none⟩) NV c8) (own_off (i := 2) (u := .slice (some ⟨bo, oo, none⟩) NH c7) (own_off (i := 1) (u := .slice A2 NV c2) (own_off (i := 0) (u := .slice A1 NH c1) hFm9.oo hwy) hwy) hwy) hwy)
             have f4 := hid (own_off (i := 3) (u := .slice (some ⟨bs, os, none⟩) NV c8) (own_off (i := 2) (u := .slice (some ⟨bo, oo, none⟩) NH c7) (own_off (i := 1) (u := .slice A2 NV c2) (own_off (i := 0) (u := .slice A1 NH c1) hFm9.so hwy) hwy) hwy) hwy)
             have f5 := hid ((((hFm9.op.off (i := 0) (u := .slice A1 NH c1) fun g h => hgg g (List.mem_append_left _ h)).off (i := 1) (u := .slice A2 NV c2) fun g h => hgg g (List.mem_append_left _ h)).off (i := 2) (u := .slice (some ⟨bo, oo, none⟩) NH c7) fun g h => hgg g (List.mem_append_left _ h)).off (i := 3) (u := .slice (some ⟨bs, os, none⟩) NV c8) fun g h => hgg g (List.mem_append_left _ h))
             have f6 := hid ((((hFm9.sp.off (i := 0) (u := .slice A1 NH c1) fun g h => hgg g (List.mem_append_right _ h)).off (i := 1) (u := .slice A2 NV c2) fun g h => hgg g (List.mem_append_right _ h)).off (i := 2) (u := .slice (some ⟨bo, oo, none⟩) NH c7) fun g h => hgg g (List.mem_append_right _ h)).off (i := 3) (u := .slice (some ⟨bs, os, none⟩) NV c8) fun g h => hgg g (List.mem_append_right _ h))
             have hq2 := hid (show q = some s from hqe.out)
             clear HB9 z9 o1 o2 hKp hgg hM hF hqe hFm9
             refine brA (i := 37) (by decide +kernel) rfl (fun K hK => ?_)
             go_simp
             (try go_wp2_with fail)
             refine hK.out _ _ ?_ (fun hHeld => ?_)
             ·exact ⟨⟨⟨keep_set hwgf (keep_set hwgf (keep_set hwgf (keep_set hwgf hHeld.1.1.1))), keep_set hwgf (keep_set hwgf (keep_set hwgf (keep_set hwgf hHeld.1.1.2)))⟩, keep_set hwgf (keep_set hwgf (keep_set hwgf (keep_set hwgf hHeld.1.2.1))), keep_set hwgf (keep_set hwgf (keep_set hwgf (keep_set hwgf hHeld.1.2.2)))⟩, ⟨keep_set hwbo (keep_set hwbo (keep_set hwbo (keep_set hwbo hHeld.2.1.1))), keep_set hwbo (keep_set hwbo (keep_set hwbo (keep_set hwbo hHeld.2.1.2)))⟩, keep_set hwbs (keep_set hwbs (keep_set hwbs (keep_set hwbs hHeld.2.2.1))), keep_set hwbs (keep_set hwbs (keep_set hwbs (keep_set hwbs hHeld.2.2.2)))⟩
             clear hK K
             (try simp only [Act.put, Lp0, Lp1, Lp2])
             refine' tkA (i := 38) rfl (by decide +kernel) (Or.inl ⟨by rfl, ?_⟩) (by assumption) (fun _ _ _ h => h) ?_
             rotate_left 1
             ·(intro w_ hSw_; (try dsimp only at hSw_); go_simp; (try with_reducible rfl))
             (try simp only [Act.put, Lp0, Lp1, Lp2])
             refine wpAnyH_done (by decide +kernel) ?_ _
             go_wp2_with fail
             refine bodyPost_ret (v := .tuple #[.agg #[.slice A1 NH c1, .slice A2 NV c2, .slice (some ⟨bo, oo, none⟩) NH c7, .slice (some ⟨bs, os, none⟩) NV c8], .bool true]) ?_ rfl ?_
             ·simp [results, Tryz.results41, go_sem, k0, k1, k2, k3]
             ·exact hfin.out _ _ _ _ _ _ _ _ _ _ _ _ _ _ (by rw [hq2.out]; rfl) (fun s' h => by
               first
                | (rw [hq2.out] at h; cases h; done)
                | (rw [hq2.out] at h; injection h with h; subst h; exact ⟨⟨rfl, rfl⟩, ⟨(f1.out.rd2 PtKo).1, (f2.out.rd2 PtKo).1⟩, ⟨go, hgo.out.symm, by rw [hK1]; exact (f3.out.rd2 (SlKo K1)).1, f5.out⟩, ⟨gs, hgs.out.symm, by rw [hK2]; exact (f4.out.rd2 (SlKo K2)).1, f6.out⟩⟩)) HBf.out
        ·have h4i : ((s.n : Int) == 4) = false := by rw [beq_eq_false_iff_ne]; omega
         rw [decide_eq_false h4] at hqe
         simp only [Bool.false_and] at hqe
         obtain ⟨x9, hx9⟩ : ∃ x, x = xd := ⟨_, rfl⟩
         subst hx9
         have hFm9 := hFm.below hdb
         clear hFm hdb m0 m1 m2 m3 r0 r1 r2 r3 hU1 hU2 hU3 hU4
         refine' tkA (i := 0) rfl (by decide +kernel) (Or.inl ⟨by rfl, ?_⟩) (by assumption) (fun _ _ _ h => h) ?_
         rotate_left 1
         ·(intro w_ hSw_; (try dsimp only at hSw_); go_simp; (try with_reducible rfl))
         (try simp only [Act.put, Lp0, Lp1, Lp2])
         refine' tkA (i := 1) rfl (by decide +kernel) (Or.inl ⟨by rfl, ?_⟩) (by assumption) (fun _ _ _ h => h) ?_
         rotate_left 1
         ·(intro w_ hSw_; (try dsimp only at hSw_); go_simp; (try with_reducible rfl))
         (try simp only [Act.put, Lp0, Lp1, Lp2])
         refine' tkA (i := 2) rfl (by decide +kernel) (Or.inl ⟨by rfl, ?_⟩) (by assumption) (fun _ _ _ h => h) ?_
         rotate_left 1
         ·(intro w_ hSw_; (try dsimp only at hSw_); go_simp; (try with_reducible rfl))
         (try simp only [Act.put, Lp0, Lp1, Lp2])
         refine' tkA (i := 3) rfl (by decide +kernel) (Or.inl ⟨by rfl, ?_⟩) (by assumption) (fun _ _ _ h => h) ?_
         rotate_left 1
         ·(intro w_ hSw_; (try dsimp only at hSw_); go_simp; (try with_reducible rfl))
         (try simp only [Act.put, Lp0, Lp1, Lp2])
         refine tkA (i := 4) (v := undef) rfl (by decide +kernel) (Or.inr ⟨by rfl, rfl⟩) (by assumption) (fun _ _ _ h => h) ?_
         (try simp only [Act.put, Lp0, Lp1, Lp2])
         refine tkA (i := 5) (v := undef) rfl (by decide +kernel) (Or.inr ⟨by rfl, rfl⟩) (by assumption) (fun _ _ _ h => h) ?_
         (try simp only [Act.put, Lp0, Lp1, Lp2])
         refine tkA (i := 6) (v := undef) rfl (by decide +kernel) (Or.inr ⟨by rfl, rfl⟩) (by assumption) (fun _ _ _ h => h) ?_
         (try simp only [Act.put, Lp0, Lp1, Lp2])
         refine tkA (i := 7) (v := undef) rfl (by decide +kernel) (Or.inr ⟨by rfl, rfl⟩) (by assumption) (fun _ _ _ h => h) ?_
         (try simp only [Act.put, Lp0, Lp1, Lp2])
         refine tkA (i := 8) (v := undef) rfl (by decide +kernel) (Or.inr ⟨by rfl, rfl⟩) (by assumption) (fun _ _ _ h => h) ?_
         (try simp only [Act.put, Lp0, Lp1, Lp2])
         refine' tkA (i := 9) rfl (by decide +kernel) (Or.inl ⟨by rfl, ?_⟩) (by assumption) (fun _ _ _ h => h) ?_
         rotate_left 1
         ·(intro w_ hSw_; (try dsimp only at hSw_); go_simp; (try with_reducible rfl))
         (try simp only [Act.put, Lp0, Lp1, Lp2])
         refine' tkA (i := 10) rfl (by decide +kernel) (Or.inl ⟨by rfl, ?_⟩) (by assumption) (fun _ _ _ h => h) ?_
         rotate_left 1
         ·(intro w_ hSw_; (try dsimp only at hSw_); go_simp; (try with_reducible rfl))
         (try simp only [Act.put, Lp0, Lp1, Lp2])
         refine tkA (i := 11) (v := undef) rfl (by decide +kernel) (Or.inr ⟨by rfl, rfl⟩) (by assumption) (fun _ _ _ h => h) ?_
         (try simp only [Act.put, Lp0, Lp1, Lp2])
         refine tkA (i := 12) (v := undef) rfl (by decide +kernel) (Or.inr ⟨by rfl, rfl⟩) (by assumption) (fun _ _ _ h => h) ?_
         (try simp only [Act.put, Lp0, Lp1, Lp2])
         refine tkA (i := 13) (v := undef) rfl (by decide +kernel) (Or.inr ⟨by rfl, rfl⟩) (by assumption) (fun _ _ _ h => h) ?_
         (try simp only [Act.put, Lp0, Lp1, Lp2])
         refine tkA (i := 14) (v := undef) rfl (by decide +kernel) (Or.inr ⟨by rfl, rfl⟩) (by assumption) (fun _ _ _ h => h) ?_
         (try simp only [Act.put, Lp0, Lp1, Lp2])
         refine tkA (i := 15) (v := undef) rfl (by decide +kernel) (Or.inr ⟨by rfl, rfl⟩) (by assumption) (fun _ _ _ h => h) ?_
         (try simp only [Act.put, Lp0, Lp1, Lp2])
         refine tkA (i := 16) (v := undef) rfl (by decide +kernel) (Or.inr ⟨by rfl, rfl⟩) (by assumption) (fun _ _ _ h => h) ?_
         (try simp only [Act.put, Lp0, Lp1, Lp2])
         refine tkA (i := 17) (v := undef) rfl (by decide +kernel) (Or.inr ⟨by rfl, rfl⟩) (by assumption) (fun _ _ _ h => h) ?_
         (try simp only [Act.put, Lp0, Lp1, Lp2])
         refine tkA (i := 18) (v := undef) rfl (by decide +kernel) (Or.inr ⟨by rfl, rfl⟩) (by assumption) (fun _ _ _ h => h) ?_
         (try simp only [Act.put, Lp0, Lp1, Lp2])
         refine' tkA (i := 19) rfl (by decide +kernel) (Or.inl ⟨by rfl, ?_⟩) (by assumption) (fun _ _ _ h => h) ?_
         rotate_left 1
         ·(intro w_ hSw_; (try dsimp only at hSw_); go_simp; (try with_reducible rfl))
         (try simp only [Act.put, Lp0, Lp1, Lp2])
         refine' tkA (i := 20) rfl (by decide +kernel) (Or.inl ⟨by rfl, ?_⟩) (by assumption) (fun _ _ _ h => h) ?_
         rotate_left 1
         ·(intro w_ hSw_; (try dsimp only at hSw_); go_simp; (try with_reducible rfl))
         (try simp only [Act.put, Lp0, Lp1, Lp2])
         refine tkA (i := 21) (v := undef) rfl (by decide +kernel) (Or.inr ⟨by rfl, rfl⟩) (by assumption) (fun _ _ _ h => h) ?_
         (try simp only [Act.put, Lp0, Lp1, Lp2])
         refine tkA (i := 22) (v := undef) rfl (by decide +kernel) (Or.inr ⟨by rfl, rfl⟩) (by assumption) (fun _ _ _ h => h) ?_
         (try simp only [Act.put, Lp0, Lp1, Lp2])
         refine tkA (i := 23) (v := undef) rfl (by decide +kernel) (Or.inr ⟨by rfl, rfl⟩) (by assumption) (fun _ _ _ h => h) ?_
         (try simp only [Act.put, Lp0, Lp1, Lp2])
         refine tkA (i := 24) (v := undef) rfl (by decide +kernel) (Or.inr ⟨by rfl, rfl⟩) (by assumption) (fun _ _ _ h => h) ?_
         (try simp only [Act.put, Lp0, Lp1, Lp2])
         refine tkA (i := 25) (v := undef) rfl (by decide +kernel) (Or.inr ⟨by rfl, rfl⟩) (by assumption) (fun _ _ _ h => h) ?_
         (try simp only [Act.put, Lp0, Lp1, Lp2])
         refine' tkA (i := 26) rfl (by decide +kernel) (Or.inl ⟨by rfl, ?_⟩) (by assumption) (fun _ _ _ h => h) ?_
         rotate_left 1
         ·(intro w_ hSw_; (try dsimp only at hSw_); go_simp; (try with_reducible rfl))
         (try simp only [Act.put, Lp0, Lp1, Lp2])
         refine' tkA (i := 27) rfl (by decide +kernel) (Or.inl ⟨by rfl, ?_⟩) (by assumption) (fun _ _ _ h => h) ?_
         rotate_left 1
         ·(intro w_ hSw_; (try dsimp only at hSw_); go_simp; (try with_reducible rfl))
         (try simp only [Act.put, Lp0, Lp1, Lp2])
         refine tkA (i := 28) (v := undef) rfl (by decide +kernel) (Or.inr ⟨by rfl, rfl⟩) (by assumption) (fun _ _ _ h => h) ?_
         (try simp only [Act.put, Lp0, Lp1, Lp2])
         refine tkA (i := 29) (v := undef) rfl (by decide +kernel) (Or.inr ⟨by rfl, rfl⟩) (by assumption) (fun _ _ _ h => h) ?_
         (try simp only [Act.put, Lp0, Lp1, Lp2])
         refine tkA (i := 30) (v := undef) rfl (by decide +kernel) (Or.inr ⟨by rfl, rfl⟩) (by assumption) (fun _ _ _ h => h) ?_
         (try simp only [Act.put, Lp0, Lp1, Lp2])
         refine tkA (i := 31) (v := undef) rfl (by decide +kernel) (Or.inr ⟨by rfl, rfl⟩) (by assumption) (fun _ _ _ h => h) ?_
         (try simp only [Act.put, Lp0, Lp1, Lp2])
         refine tkA (i := 32) (v := undef) rfl (by decide +kernel) (Or.inr ⟨by rfl, rfl⟩) (by assumption) (fun _ _ _ h => h) ?_
         (try simp only [Act.put, Lp0, Lp1, Lp2])
         refine tkA (i := 33) (v := undef) rfl (by decide +kernel) (Or.inr ⟨by rfl, rfl⟩) (by assumption) (fun _ _ _ h => h) ?_
         (try simp only [Act.put, Lp0, Lp1, Lp2])
         refine tkA (i := 34) (v := undef) rfl (by decide +kernel) (Or.inr ⟨by rfl, rfl⟩) (by assumption) (fun _ _ _ h => h) ?_
         (try simp only [Act.put, Lp0, Lp1, Lp2])
         refine tkA (i := 35) (v := undef) rfl (by decide +kernel) (Or.inr ⟨by rfl, rfl⟩) (by assumption) (fun _ _ _ h => h) ?_
         (try simp only [Act.put, Lp0, Lp1, Lp2])
         refine' tkA (i := 36) rfl (by decide +kernel) (Or.inl ⟨by rfl, ?_⟩) (by assumption) (fun _ _ _ h => h) ?_
         rotate_left 1
         ·(intro w_ hSw_; (try dsimp only at hSw_); go_simp; (try with_reducible rfl))
         (try simp only [Act.put, Lp0, Lp1, Lp2])
         -- all is said: the frame is stored and returned
         obtain ⟨⟨HB9, -, -⟩, ⟨k0, k1⟩, ⟨k2, k3⟩, z9, o1, o2⟩ := hKp.out x9 hFm9.gb
         have fk := z9.fr
         have ltk := cell_lt k0
         have HBf := hid (below_set (below_set (below_set (below_set HB9 (Nat.le_refl _) 0 (.slice A1 NH c1)) (Nat.le_refl _) 1 (.slice A2 NV c2)) (Nat.le_refl _) 2 (.slice (some ⟨bo, oo, none⟩) NH c7)) (Nat.le_refl _) 3 (.slice (some ⟨bs, os, none⟩) NV c8))
         have hwu : w.heap.size < u.heap.size := by omega
         have hwv : w.heap.size < v.heap.size := by omega
         have hwy : w.heap.size < y.heap.size := by omega
         have hgg : ∀ g ∈ go ++ gs, w.heap.size ≠ g := fun g h => by have := hFm9.gt g h; omega
         have f1 := hid (own_off (i := 3) (u := .slice (some ⟨bs, os, none⟩) NV c8) (own_off (i := 2) (u := .slice (some ⟨bo, oo, none⟩) NH c7) (own_off (i := 1) (u := .slice A2 NV c2) (own_off (i := 0) (u := .slice A1 NH c1) o1 hwu) hwu) hwu) hwu)
         have f2 := hid (own_off (i := 3) (u := .slice (some ⟨bs, os, none⟩) NV c8) (own_off (i := 2) (u := .slice (some ⟨bo, oo, none⟩) NH c7) (own_off (i := 1) (u := .slice A2 NV c2) (own_off (i := 0) (u := .slice A1 NH c1) o2 hwv) hwv) hwv) hwv)
         have f3 := hid (own_off (i := 3) (u := .slice (some ⟨bs, os, none⟩) NV c8) (own_off (i := 2) (u := .slice (some ⟨bo, oo, none⟩) NH c7) (own_off (i := 1) (u := .slice A2 NV c2) (own_off (i := 0) (u := .slice A1 NH c1) hFm9.oo hwy) hwy) hwy) hwy)
         have f4 := hid (own_off (i := 3) (u := .slice (some ⟨bs, os, none⟩) NV c8) (own_off (i := 2) (u := .slice (some ⟨bo, oo, none⟩) NH c7) (own_off (i := 1) (u := .slice A2 NV c2) (own_off (i := 0) (u := .slice A1 NH c1) hFm9.so hwy) hwy) hwy) hwy)
         have f5 := hid ((((hFm9.op.off (i := 0) (u := .slice A1 NH c1) fun g h => hgg g (List.mem_append_left _ h)).off (i := 1) (u := .slice A2 NV c2) fun g h => hgg g (List.mem_append_left _ h)).off (i := 2) (u := .slice (some ⟨bo, oo, none⟩) NH c7) fun g h => hgg g (List.mem_append_left _ h)).off (i := 3) (u := .slice (some ⟨bs, os, none⟩) NV c8) fun g h => hgg g (List.mem_append_left _ h))
         have f6 := hid ((((hFm9.sp.off (i := 0) (u := .slice A1 NH c1) fun g h => hgg g (List.mem_append_right _ h)).off (i := 1) (u := .slice A2 NV c2) fun g h => hgg g (List.mem_append_right _ h)).off (i := 2) (u := .slice (some ⟨bo, oo, none⟩) NH c7) fun g h => hgg g (List.mem_append_right _ h)).off (i := 3) (u := .slice (some ⟨bs, os, none⟩) NV c8) fun g h => hgg g (List.mem_append_right _ h))
         have hq2 := hid (show q = none from hqe.out)
         clear HB9 z9 o1 o2 hKp hgg hM hF hqe hFm9
         refine brA (i := 37) (by decide +kernel) rfl (fun K hK => ?_)
         go_simp
         (try go_wp2_with fail)
         refine hK.out _ _ ?_ (fun hHeld => ?_)
         ·exact ⟨⟨⟨keep_set hwgf (keep_set hwgf (keep_set hwgf (keep_set hwgf hHeld.1.1.1))), keep_set hwgf (keep_set hwgf (keep_set hwgf (keep_set hwgf hHeld.1.1.2)))⟩, keep_set hwgf (keep_set hwgf (keep_set hwgf (keep_set hwgf hHeld.1.2.1))), keep_set hwgf (keep_set hwgf (keep_set hwgf (keep_set hwgf hHeld.1.2.2)))⟩, ⟨keep_set hwbo (keep_set hwbo (keep_set hwbo (keep_set hwbo hHeld.2.1.1))), keep_set hwbo (keep_set hwbo (keep_set hwbo (keep_set hwbo hHeld.2.1.2)))⟩, keep_set hwbs (keep_set hwbs (keep_set hwbs (keep_set hwbs hHeld.2.2.1))), keep_set hwbs (keep_set hwbs (keep_set hwbs (keep_set hwbs hHeld.2.2.2)))⟩
         clear hK K
         (try simp only [Act.put, Lp0, Lp1, Lp2])
         refine' tkA (i := 38) rfl (by decide +kernel) (Or.inl ⟨by rfl, ?_⟩) (by assumption) (fun _ _ _ h => h) ?_
         rotate_left 1
         ·(intro w_ hSw_; (try dsimp only at hSw_); go_simp; (try with_reducible rfl))
         (try simp only [Act.put, Lp0, Lp1, Lp2])
         refine wpAnyH_done (by decide +kernel) ?_ _
         go_wp2_with fail
         refine bodyPost_ret (v := .tuple #[.agg #[.slice A1 NH c1, .slice A2 NV c2, .slice (some ⟨bo, oo, none⟩) NH c7, .slice (some ⟨bs, os, none⟩) NV c8], .bool false]) ?_ rfl ?_
         ·simp [results, Tryz.results41, go_sem, k0, k1, k2, k3]
         ·exact hfin.out _ _ _ _ _ _ _ _ _ _ _ _ _ _ (by rw [hq2.out]; rfl) (fun s' h => by
           first
            | (rw [hq2.out] at h; cases h; done)
            | (rw [hq2.out] at h; injection h with h; subst h; exact ⟨⟨rfl, rfl⟩, ⟨(f1.out.rd2 PtKo).1, (f2.out.rd2 PtKo).1⟩, ⟨go, hgo.out.symm, by rw [hK1]; exact (f3.out.rd2 (SlKo K1)).1, f5.out⟩, ⟨gs, hgs.out.symm, by rw [hK2]; exact (f4.out.rd2 (SlKo K2)).1, f6.out⟩⟩)) HBf.out
 ·obtain rfl := hno.out (by
   cases e1 : aptE H
   ·exact .inl rfl
   ·cases e2 : aptE V
    ·exact .inr rfl
    ·exact absurd ⟨e1, e2⟩ hap)
  clear hb1 hb2 hff hno hM hMb
  have ltk := cell_lt k0
  have HBf := hid (below_set (below_set (below_set (below_set HB (Nat.le_refl _) 0 (.slice none 0 0)) (Nat.le_refl _) 1 (.slice none 0 0)) (Nat.le_refl _) 2 (.slice none 0 0)) (Nat.le_refl _) 3 (.slice none 0 0))
  clear HB z0 z1 r0 r1
  generalize aptE H = t1 at *
  generalize aptE V = t2 at *
  cases t1
  ·skip
   clear hap
   go_wp2
   refine bodyPost_ret (v := .tuple #[.agg #[.slice none 0 0, .slice none 0 0, .slice none 0 0, .slice none 0 0], .bool false]) ?_ rfl ?_
   ·simp [results, Tryz.results41, go_sem, k0, k1, k2, k3]
   ·exact ⟨_, _, _, _, _, _, _, _, _, _, _, _, rfl, fun s h => (by cases h), HBf.out⟩
  ·cases t2
   ·skip
    clear hap
    go_wp2
    refine bodyPost_ret (v := .tuple #[.agg #[.slice none 0 0, .slice none 0 0, .slice none 0 0, .slice none 0 0], .bool false]) ?_ rfl ?_
    ·simp [results, Tryz.results41, go_sem, k0, k1, k2, k3]
    ·exact ⟨_, _, _, _, _, _, _, _, _, _, _, _, rfl, fun s h => (by cases h), HBf.out⟩
   ·exact absurd ⟨rfl, rfl⟩ hap
end Go.Proofs.YtjfgklhifhaaoaaGreat
