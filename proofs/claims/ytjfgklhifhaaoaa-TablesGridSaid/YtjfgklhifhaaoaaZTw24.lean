/- Tables: Grid of the package. Conditions: none. -/
import Derived.Test.YtjfgklhifhaaoaaZTw22
import Derived.Test.YtjfgklhifhaaoaaZTw23
import Derived.Test.YtjfgklhifhaaoaaZPC
set_option linter.unusedVariables false
set_option linter.unusedSimpArgs false
namespace Go.Proofs.Ytjfgklhifhaaoaa
open Go.RowKit
/-- nothing old but two blocks was changed -/
structure But2 (w w' : World) (a b : Nat) : Prop where
 os : w'.os = w.os
 tape : w'.tape = w.tape
 output : w'.output = w.output
 size : w.heap.size ≤ w'.heap.size
 block : ∀ k, k < w.heap.size → k ≠ a → k ≠ b → w'.heap[k]? = w.heap[k]?
theorem But2.refl (w : World) (a b : Nat) : But2 w w a b := ⟨rfl, rfl, rfl, Nat.le_refl _, fun _ _ _ _ => rfl⟩
theorem But2.cell {w w' : World} {a b k o : Nat} {v : Value} (h : But2 w w' a b) (ha : k ≠ a) (hb : k ≠ b) (hc : w.cell? ⟨k, o, none⟩ = some v) : w'.cell? ⟨k, o, none⟩ = some v :=
 (World.cell?_of_block (h.block k (cell_lt hc) ha hb)).trans hc
theorem But2.px {w w' : World} {a b k : Nat} {d : List Bool} (h : But2 w w' a b) (ha : k ≠ a) (hb : k ≠ b) (hp : PxA w k d) : PxA w' k d :=
 ⟨fun j u hu => h.cell ha hb (hp.r j u hu), Nat.lt_of_lt_of_le hp.z.lt h.size, fun i => by
  have := h.block k hp.z.lt ha hb
  have hz := hp.z.fr i
  unfold World.frozen? at *
  rw [this]; exact hz⟩
theorem But2.grow {w w' w'' : World} {a b : Nat} {row : Option Nat} (h : But2 w w' a b) (hg : w'.grownBy w'' row) (hr : ∀ k, row = some k → w.heap.size ≤ k ∨ k = a ∨ k = b) : But2 w w'' a b :=
 ⟨hg.os.trans h.os, hg.tape.trans h.tape, hg.output.trans h.output, Nat.le_trans h.size hg.size, fun k hk ha hb => (hg.block k (Nat.lt_of_lt_of_le hk h.size) (fun e => by
  rcases hr k e.symm with h1 | h1 | h1
  ·omega
  ·exact ha h1
  ·exact hb h1)).trans (h.block k hk ha hb)⟩
theorem But2.below {w w' w'' : World} {a b : Nat} (h : But2 w w' a b) (hb : Below w'.heap.size w' w'') : But2 w w'' a b := h.grow (gb_below (row := none) hb) (fun _ e => by cases e)
theorem But2.pxr {w w' w'' : World} {a b : Nat} {d : List Bool} (h : But2 w w' a b) (hp : PxR w' a d w'') : But2 w w'' a b := h.grow hp.gb (fun k e => by injection e with e; exact .inr (.inl e.symm))
theorem But2.set {w w' : World} {a b k i : Nat} {v : Value} (h : But2 w w' a b) (hk : w.heap.size ≤ k ∨ k = a ∨ k = b) : But2 w (w'.setCell ⟨k, i, none⟩ v) a b := h.grow (gb_set (g := k)) (fun j e => by injection e with e; rw [← e]; exact hk)
theorem But2.old {w w' : World} {a b B : Nat} (h : But2 w w' a b) (ha : B ≤ a) (hb : B ≤ b) (hw : B ≤ w.heap.size) : Below B w w' := ⟨h.os, h.tape, h.output, h.size, fun k hk => h.block k (by omega) (by omega) (by omega)⟩
theorem PxA.grownK {w w' : World} {g : Nat} {d : List Bool} {row : Option Nat} (h : PxA w g d) (hg : w.grownBy w' row) (hne : some g ≠ row) : PxA w' g d :=
 ⟨fun j u hu => hg.cell (h.r j u hu) hne, Nat.lt_of_lt_of_le h.z.lt hg.size, fun i => by
  have := hg.block g h.z.lt hne
  have hz := h.z.fr i
  unfold World.frozen? at *
  rw [this]; exact hz⟩
theorem Zn.grownK {w w' : World} {g : Nat} {row : Option Nat} (h : Zn w g) (hg : w.grownBy w' row) (hne : some g ≠ row) : Zn w' g :=
 ⟨Nat.lt_of_lt_of_le h.lt hg.size, fun i => by
  have := hg.block g h.lt hne
  have hz := h.fr i
  unfold World.frozen? at *
  rw [this]; exact hz⟩
theorem grd_app {x w w' : World} {gM gT : Nat} {d : List Bool} {v v' a b : Value} {l m : List Ce} (h1 : But2 x w gM gT) (h2 : PxA w gM d) (h3 : CeK.Own w x.heap.size v l) (h4 : Zn w gT) (h5 : w.cell? ⟨gT, 0, none⟩ = some a) (h6 : w.cell? ⟨gT, 1, none⟩ = some b)
  (hO : CeK.Own w' x.heap.size v' m) (hg : w.grownBy w' v.ownBlock) (hM : gM < x.heap.size) (hT : gT < x.heap.size) (hMT : gM ≠ gT) : But2 x w' gM gT ∧ PxA w' gM d ∧ (w'.cell? ⟨gT, 0, none⟩ = some a ∧ w'.cell? ⟨gT, 1, none⟩ = some b) ∧ Zn w' gT ∧ CeK.Own w' x.heap.size v' m :=
 have n1 : some gM ≠ v.ownBlock := fun e => by have := (h3.lt e.symm).1; omega
 have n2 : some gT ≠ v.ownBlock := fun e => by have := (h3.lt e.symm).1; omega
 ⟨h1.grow hg (fun k e => .inl (h3.lt e).1), h2.grownK hg n1, ⟨hg.cell h5 n2, hg.cell h6 n2⟩, h4.grownK hg n2, hO⟩
/-- a table and an error -/
def RetGr (w : World) (q : Ta × Int) (e : Ending) (w' : World) : Prop :=
 ∃ A c, e = .returned (.tuple #[.agg #[.int .i64 q.1.r, .int .i64 q.1.c, .slice A q.1.l.length c], .int .i64 q.2]) ∧ CeK.Rd w' A c q.1.l ∧ Below w.heap.size w w'
set_option maxRecDepth 100000 in
set_option maxHeartbeats 8000000 in
theorem TGrid_g (l : List Ru) (A : Option Addr) (c : Nat) {w : World} (hl : RuK.Rd w A c l) : Calls Try.prog 9 #[.slice A l.length c] w (RetGr w (grdE l)) := by
 have h0 := hid (grd_empty (l := l))
 have h1 := hid (grd_long (l := l))
 have h2 := hid (grd_bad (l := l))
 have h3 := hid (grd_form (l := l))
 have h4 := hid fun f => grd_none (l := l) (f := f)
 have h5 := hid fun f L => grd_ok (l := l) (f := f) (L := L)
 have HC := hid fun (W : World) (hb : Below w.heap.size w W) => CtR_g l A c (hl.below hb)
 have HB1 := hid fun (W : World) (hb : Below w.heap.size w W) (h4 : l.length ≤ 512) (hok : l.all okR = true) => Tbld_g l A c (hl.below hb) (by omega) (fun r hr => List.all_eq_true.1 hok r hr)
 have hOk := hid fun (f : Fr) (hf : bldE l = some f) (h4 : l.length ≤ 512) => (bld_ok hf).1
 have hOk2 := hid fun (f : Fr) (hf : bldE l = some f) => (bld_ok hf).2
 have hSm := hid fun (v : Bool) (hok : l.all okR = true) => bnd_small (v := v) (fun r hr => List.all_eq_true.1 hok r hr)
 obtain ⟨Q, hQ⟩ : ∃ q, grdE l = q := ⟨_, rfl⟩
 obtain ⟨O, hO⟩ : ∃ o, bldE l = o := ⟨_, rfl⟩
 obtain ⟨t, ht⟩ : ∃ t, l.all okR = t := ⟨_, rfl⟩
 rw [hQ] at h0 h1 h2 h3 h4 h5 ⊢
 rw [hO] at h3 h4 h5 HB1 hOk hOk2
 rw [ht] at h2 h3 h4 h5 HB1 hSm
 replace HC := hid fun (W : World) (hb : Below w.heap.size w W) => (show Calls Try.prog 26 #[.slice A l.length c, .func (.func 27) #[] #[]] W (RetB W (!t)) from by rw [← ht]; exact HC.out W hb)
 obtain ⟨n, hn⟩ : ∃ n, l.length = n := ⟨_, rfl⟩
 rw [hn] at h0 h1 h2 h3 h4 h5 HB1 HC hOk ⊢
 clear hl hQ hO ht hn
 go_enter Try.func9, Try.ntmps9
 go_upto_region 1 with fail
 refine enterR (P := fun u => Code.wp _ _ _ _ u) (c := [.int .i64 0, .int .i64 0, .slice none 0 0]) ?_
 intro u HB r0 zn hsz
 clear hsz
 by_cases hn0 : n = 0
 ·obtain rfl := h0.out hn0
  subst hn0
  clear h0 h1 h2 h3 h4 h5 HC HB1 hOk hOk2 hSm
  have k0 : (u).cell? ⟨w.heap.size, 0, none⟩ = some (.int .i64 0) := r0 0 _ rfl
  have k1 : (u).cell? ⟨w.heap.size, 1, none⟩ = some (.int .i64 0) := r0 1 _ rfl
  have k2 : (u).cell? ⟨w.heap.size, 2, none⟩ = some (.slice none 0 0) := r0 2 _ rfl
  have ltk := cell_lt k0
  have fk := zn.fr
  have HBf := hid (below_set (below_set (below_set HB (Nat.le_refl _) 0 (.int .i64 0)) (Nat.le_refl _) 1 (.int .i64 0)) (Nat.le_refl _) 2 (.slice none 0 0))
  clear r0 zn HB
  go_wp2
  refine bodyPost_ret (v := .tuple #[.agg #[.int .i64 0, .int .i64 0, .slice none 0 0], .int .i64 (5)]) ?_ rfl ?_
  ·simp [results, Try.results9, go_sem, k0, k1, k2]
  ·exact ⟨none, 0, rfl, Knd.Rd.nil _, HBf.out⟩
 ·have hni : ((n : Int) == 0) = false := by rw [beq_eq_false_iff_ne]; omega
  by_cases hn5 : 512 < n
  ·have hn5i : (512 : Int) < (n : Int) := by omega
   obtain rfl := h1.out hn0 hn5
   clear h0 h1 h2 h3 h4 h5 HC HB1 hOk hOk2 hSm
   have k0 : (u).cell? ⟨w.heap.size, 0, none⟩ = some (.int .i64 0) := r0 0 _ rfl
   have k1 : (u).cell? ⟨w.heap.size, 1, none⟩ = some (.int .i64 0) := r0 1 _ rfl
   have k2 : (u).cell? ⟨w.heap.size, 2, none⟩ = some (.slice none 0 0) := r0 2 _ rfl
   have ltk := cell_lt k0
   have fk := zn.fr
   have HBf := hid (below_set (below_set (below_set HB (Nat.le_refl _) 0 (.int .i64 0)) (Nat.le_refl _) 1 (.int .i64 0)) (Nat.le_refl _) 2 (.slice none 0 0))
   clear r0 zn HB
   go_wp2
   refine bodyPost_ret (v := .tuple #[.agg #[.int .i64 0, .int .i64 0, .slice none 0 0], .int .i64 (4)]) ?_ rfl ?_
   ·simp [results, Try.results9, go_sem, k0, k1, k2]
   ·exact ⟨none, 0, rfl, Knd.Rd.nil _, HBf.out⟩
  ·have hn5i : ¬ (512 : Int) < (n : Int) := by omega
   replace HC := hid (HC.out u HB)
   clear h0 h1
   go_wp2_with fail
   refine HC.out.mono ?_
   rintro e u1 ⟨rfl, hv⟩
   replace HB := bel_step HB hv
   replace r0 := rng_below r0 hv
   replace zn := zn.below hv
   clear HC hv
   cases t
   ·obtain rfl := h2.out hn0 hn5 (by first | rfl | trivial)
    clear h2 h3 h4 h5 HB1 hOk hOk2 hSm
    have k0 : (u1).cell? ⟨w.heap.size, 0, none⟩ = some (.int .i64 0) := r0 0 _ rfl
    have k1 : (u1).cell? ⟨w.heap.size, 1, none⟩ = some (.int .i64 0) := r0 1 _ rfl
    have k2 : (u1).cell? ⟨w.heap.size, 2, none⟩ = some (.slice none 0 0) := r0 2 _ rfl
    have ltk := cell_lt k0
    have fk := zn.fr
    have HBf := hid (below_set (below_set (below_set HB (Nat.le_refl _) 0 (.int .i64 0)) (Nat.le_refl _) 1 (.int .i64 0)) (Nat.le_refl _) 2 (.slice none 0 0))
    clear r0 zn HB
    go_wp2
    refine bodyPost_ret (v := .tuple #[.agg #[.int .i64 0, .int .i64 0, .slice none 0 0], .int .i64 (3)]) ?_ rfl ?_
    ·simp [results, Try.results9, go_sem, k0, k1, k2]
    ·exact ⟨none, 0, rfl, Knd.Rd.nil _, HBf.out⟩
   ·replace HB1 := hid (HB1.out u1 HB (by omega) (by first | rfl | trivial))
    replace h3 := hid (h3.out hn0 hn5 (by first | rfl | trivial))
    replace h4 := hid fun f => (h4.out f hn0 hn5 (by first | rfl | trivial))
    replace h5 := hid fun f L => (h5.out f L hn0 hn5 (by first | rfl | trivial))
    replace hSm := hid fun v => hSm.out v (by first | rfl | trivial)
    clear h2
    go_wp2_with fail
    refine HB1.out.mono ?_
    rintro e u2 ⟨hv, vf, ⟨A1, n1, c1, A2, n2, c2, A3, n3, c3, A4, n4, c4, rfl⟩, rfl, hfr⟩
    replace HB := bel_step HB hv
    replace r0 := rng_below r0 hv
    replace zn := zn.below hv
    clear HB1 hv
    go_upto_region 8 with fail
    refine enterR (P := fun u => Code.wp _ _ _ _ u) (c := [.slice A1 n1 c1, .slice A2 n2 c2, .slice A3 n3 c3, .slice A4 n4 c4]) ?_
    intro x2 hbx rf zf hsf
    replace HB := bel_step HB hbx
    replace r0 := rng_below r0 hbx
    replace zn := zn.below hbx
    cases O with
    | none =>
     obtain rfl := h3.out (by first | rfl | trivial)
     clear h3 h4 h5 hOk hOk2 hSm hfr hbx rf zf hsf
     have k0 : (x2).cell? ⟨w.heap.size, 0, none⟩ = some (.int .i64 0) := r0 0 _ rfl
     have k1 : (x2).cell? ⟨w.heap.size, 1, none⟩ = some (.int .i64 0) := r0 1 _ rfl
     have k2 : (x2).cell? ⟨w.heap.size, 2, none⟩ = some (.slice none 0 0) := r0 2 _ rfl
     have ltk := cell_lt k0
     have fk := zn.fr
     have HBf := hid (below_set (below_set (below_set HB (Nat.le_refl _) 0 (.int .i64 0)) (Nat.le_refl _) 1 (.int .i64 0)) (Nat.le_refl _) 2 (.slice none 0 0))
     clear r0 zn HB
     go_wp2
     refine bodyPost_ret (v := .tuple #[.agg #[.int .i64 0, .int .i64 0, .slice none 0 0], .int .i64 (9)]) ?_ rfl ?_
     ·simp [results, Try.results9, go_sem, k0, k1, k2]
     ·exact ⟨none, 0, rfl, Knd.Rd.nil _, HBf.out⟩
    | some f =>
     have hfo : FrOk f 512 := by
      have h := hOk.out f (by first | rfl | trivial) (by omega)
      exact ⟨h.h2, h.v2, by have := h.hm; omega, by have := h.vm; omega, h.a, h.d, by have := h.al; omega, by have := h.dl; omega⟩
     obtain ⟨eH, eV⟩ := hOk2.out f (by first | rfl | trivial)
     have bH : BdS f.H := by rw [eH]; exact hSm.out false
     have bV : BdS f.V := by rw [eV]; exact hSm.out true
     have h4f := hid fun h => h4.out f (by first | rfl | trivial) h
     have h5f := hid fun L h => h5.out f L (by first | rfl | trivial) h
     have hfr2 : FrRd u2 (.agg #[.slice A1 n1 c1, .slice A2 n2 c2, .slice A3 n3 c3, .slice A4 n4 c4]) f := hfr f (by first | rfl | trivial)
     obtain ⟨A1', c1', A2', c2', A3', c3', A4', c4', e, ⟨rH, rV⟩, rA, rD⟩ := hfr2
     simp only [Value.agg.injEq, Array.mk.injEq, List.cons.injEq, Value.slice.injEq, and_true] at e
     obtain ⟨⟨rfl, rfl, rfl⟩, ⟨rfl, rfl, rfl⟩, ⟨rfl, rfl, rfl⟩, rfl, rfl, rfl⟩ := e
     have hplc := hid (Tplc_g f _ (w := x2) ⟨A1, c1, A2, c2, A3, c3, A4, c4, rfl, ⟨rH.below hbx, rV.below hbx⟩, rA.below hbx, rD.below hbx⟩ hfo)
     have rH2 := rH.below hbx
     have rV2 := rV.below hbx
     clear h3 h4 h5 hOk hOk2 hSm hfr hbx hsf rH rV rA rD eH eV
     obtain ⟨nH, hnH⟩ : ∃ n, f.H.length = n := ⟨_, rfl⟩
     obtain ⟨nV, hnV⟩ : ∃ n, f.V.length = n := ⟨_, rfl⟩
     obtain ⟨R, hR⟩ : ∃ n, (plcE f).rows = n := ⟨_, rfl⟩
     obtain ⟨C, hC⟩ : ∃ n, (plcE f).cols = n := ⟨_, rfl⟩
     have hRC1 := hid (show nH - 1 = R ∧ nV - 1 = C ∧ 2 ≤ nH ∧ 2 ≤ nV from ⟨by rw [← hnH]; exact hR, by rw [← hnV]; exact hC, by rw [← hnH]; exact hfo.h2, by rw [← hnV]; exact hfo.v2⟩)
     have hR5 : R ≤ 511 := by have := hfo.hm; have := hRC1.out; omega
     have hC5 : C ≤ 511 := by have := hfo.vm; have := hRC1.out; omega
     have hN4 : R * C ≤ 512 * 512 := Nat.mul_le_mul (by omega) (by omega)
     obtain ⟨N, hN⟩ : ∃ n, (plcE f).rows * (plcE f).cols = n := ⟨_, rfl⟩
     have hlR : (plcE f).R.length = (plcE f).rows * (plcE f).cols := by rw [plcE_R, fold_len (mrkR_len _), List.length_replicate]; rfl
     have hlB : (plcE f).B.length = (plcE f).rows * (plcE f).cols := by rw [plcE_B, fold_len (mrkB_len _), List.length_replicate]; rfl
     have hcel := hid (show celsE f (plcE f) ((plcE f).rows * (plcE f).cols) 0 (List.replicate ((plcE f).rows * (plcE f).cols) false) [] = celG f from rfl)
     rw [hN] at hcel
     have hwN : IntKind.i64.wrap ((R : Int) * (C : Int)) = (N : Int) := by
      rw [hR, hC] at hN
      rw [← Int.natCast_mul, hN, IntKind.wrap_i64]; omega
     rw [hnH, hnV] at rf hplc ⊢
     generalize plcE f = p at *
     replace hR := hid hR
     replace hC := hid hC
     replace hN := hid hN
     replace hnH := hid hnH
     replace hnV := hid hnV
     have f0 : x2.cell? ⟨u2.heap.size, 0, none⟩ = some (.slice A1 nH c1) := rf 0 _ rfl
     have f1 : x2.cell? ⟨u2.heap.size, 1, none⟩ = some (.slice A2 nV c2) := rf 1 _ rfl
     have f2 : x2.cell? ⟨u2.heap.size, 2, none⟩ = some (.slice A3 f.A.length c3) := rf 2 _ rfl
     have f3 : x2.cell? ⟨u2.heap.size, 3, none⟩ = some (.slice A4 f.D.length c4) := rf 3 _ rfl
     go_wp2_with fail
     refine hplc.out.mono ?_
     rintro e x3 ⟨gR, gB, gM, rfl, pR, pB, pM, ⟨k1, k2, k3⟩, ⟨g1, g2, g3⟩, hb3⟩
     unfold plV
     rw [hN.out, hR.out, hC.out]
     rw [hN.out] at pM
     clear hplc f0 f1 f2 f3
     go_upto_region 11 with fail
     refine enterR (P := fun u => Code.wp _ _ _ _ u) (c := [.int .i64 (R : Int), .int .i64 (C : Int), .slice (some ⟨gR, 0, none⟩) N N, .slice (some ⟨gB, 0, none⟩) N N, .slice (some ⟨gM, 0, none⟩) N N]) ?_
     intro x4 hb4 rp zp hsp
     have q0 : x4.cell? ⟨x3.heap.size, 0, none⟩ = some (.int .i64 (R : Int)) := rp 0 _ rfl
     have q1 : x4.cell? ⟨x3.heap.size, 1, none⟩ = some (.int .i64 (C : Int)) := rp 1 _ rfl
     go_upto_region 12 with fail
     refine enterR (P := fun u => Code.wp _ _ _ _ u) (c := [.int .i64 (R : Int), .int .i64 (C : Int), .slice none 0 0]) ?_
     intro x5 hb5 rt zt hst
     obtain ⟨gf, hgf⟩ : ∃ g, u2.heap.size = g := ⟨_, rfl⟩
     obtain ⟨gp, hgp⟩ : ∃ g, x3.heap.size = g := ⟨_, rfl⟩
     obtain ⟨gT, hgT⟩ : ∃ g, x4.heap.size = g := ⟨_, rfl⟩
     have hpR : PxA x5 gR p.R := (pR.below hb4).below hb5
     have hpB : PxA x5 gB p.B := (pB.below hb4).below hb5
     have hpM : PxA x5 gM (List.replicate N false) := (pM.below hb4).below hb5
     have ltR := pR.z.lt
     have ltB := pB.z.lt
     have ltM := pM.z.lt
     have lt4 := zp.lt
     have lt5 := zt.lt
     have rp5 := rng_below rp hb5
     have h25 : Below x2.heap.size x2 x5 := bel_step (bel_step hb3 hb4) hb5
     rw [hgp] at rp5 hsp ltR ltB ltM lt4
     rw [hgT] at rt zt lt5 hst
     rw [hgf] at rf
     rw [hgf, hgp, hgT]
     have ltf : gf < x2.heap.size := cell_lt (rf 0 _ rfl)
     have lt23 : x2.heap.size ≤ gp := by rw [← hgp]; exact hb3.size
     have lt45 : gp < gT := by rw [← hgT]; exact lt4
     clear hb3 hb4 hb5 pR pB pM rp zp hsp hst q0 q1 hgp hgT hgf
     have hwx2 : w.heap.size < x2.heap.size := zn.lt
     have hG := hid fun (W : World) (h : But2 x5 W gM gT) => (show ((W.cell? ⟨gp, 0, none⟩ = some (.int .i64 (R : Int)) ∧ W.cell? ⟨gp, 1, none⟩ = some (.int .i64 (C : Int))) ∧ (W.cell? ⟨gp, 2, none⟩ = some (.slice (some ⟨gR, 0, none⟩) N N) ∧ W.cell? ⟨gp, 3, none⟩ = some (.slice (some ⟨gB, 0, none⟩) N N) ∧ W.cell? ⟨gp, 4, none⟩ = some (.slice (some ⟨gM, 0, none⟩) N N))) ∧ (W.cell? ⟨gf, 0, none⟩ = some (.slice A1 nH c1) ∧ W.cell? ⟨gf, 1, none⟩ = some (.slice A2 nV c2)) ∧ (BdK.Rd W A1 c1 f.H ∧ BdK.Rd W A2 c2 f.V) ∧ PlOk W p gR gB ∧ (W.rangeAt w.heap.size 0 [.int .i64 0, .int .i64 0, .slice none 0 0] ∧ Zn W w.heap.size ∧ Below w.heap.size w W) from by
      have ho : Below x2.heap.size x2 W := h25.trans (h.old (by omega) (by omega) h25.size)
      have a1 : gp ≠ gM := by omega
      have a2 : gp ≠ gT := by omega
      exact ⟨⟨⟨h.cell a1 a2 (rp5 0 _ rfl), h.cell a1 a2 (rp5 1 _ rfl)⟩, h.cell a1 a2 (rp5 2 _ rfl), h.cell a1 a2 (rp5 3 _ rfl), h.cell a1 a2 (rp5 4 _ rfl)⟩, ⟨keep_cell ho (rf 0 _ rfl), keep_cell ho (rf 1 _ rfl)⟩, ⟨rH2.below ho, rV2.below ho⟩, ⟨h.px k2 (by omega) hpR, h.px k3 (by omega) hpB, hlR, hlB, by rw [hR.out]; omega, by rw [hC.out]; omega⟩, rng_below r0 ho, zn.below ho, bel_step HB ho⟩)
     have hS0 := hid (show But2 x5 x5 gM gT ∧ PxA x5 gM (List.replicate N false) ∧ (x5.cell? ⟨gT, 0, none⟩ = some (.int .i64 (R : Int)) ∧ x5.cell? ⟨gT, 1, none⟩ = some (.int .i64 (C : Int)) ∧ x5.cell? ⟨gT, 2, none⟩ = some (.slice none 0 0) ∧ Zn x5 gT) ∧ CeK.Own x5 x5.heap.size (.slice none 0 0) [] from ⟨But2.refl _ _ _, hpM, ⟨rt 0 _ rfl, rt 1 _ rfl, rt 2 _ rfl, zt⟩, Knd.Own.nil _ _⟩)
     have q0 : x5.cell? ⟨gp, 0, none⟩ = some (.int .i64 (R : Int)) := rp5 0 _ rfl
     have q1 : x5.cell? ⟨gp, 1, none⟩ = some (.int .i64 (C : Int)) := rp5 1 _ rfl
     have hN5 : N ≤ 512 * 512 := by have h := hN.out; rw [hR.out, hC.out] at h; omega
     clear r0 zn HB rf rH2 rV2 h25 rp5 hpR hpB hpM rt zt zf hN4
     have hcel0 := hid (show celsE f p (N - 0) 0 (List.replicate N false) [] = celG f from hcel.out)
     have hml0 : (List.replicate N false).length = N := List.length_replicate
     generalize List.replicate N false = met0 at *
     clear hcel
     go_wp2
     clear q0 q1
     go_loopw [47] (fun s47 wr => ∃ (i : Nat) (met : List Bool) (Lc : List Ce) (vC : Value), s47 = .int .i64 (i : Int) ∧ i ≤ N ∧ met.length = N ∧ Lc.length ≤ i ∧ Hid (celsE f p (N - i) i met Lc = celG f) ∧ But2 x5 wr gM gT ∧ PxA wr gM met ∧ (wr.cell? ⟨gT, 0, none⟩ = some (.int .i64 (R : Int)) ∧ wr.cell? ⟨gT, 1, none⟩ = some (.int .i64 (C : Int)) ∧ wr.cell? ⟨gT, 2, none⟩ = some vC ∧ Zn wr gT) ∧ CeK.Own wr x5.heap.size vC Lc) (fun s47 _ => N - (intOf s47).toNat)
     case atStart => exact ⟨0, met0, [], .slice none 0 0, rfl, by omega, hml0, Nat.le_refl _, hcel0, hS0.out.1, hS0.out.2.1, hS0.out.2.2.1, hS0.out.2.2.2⟩
     case round =>
      clear hS0 hml0 hcel0
      obtain ⟨i, met, Lc, vC, rfl, hi, hml, hll, hce, hB2, hPM, ⟨t0, t1, t2, zt⟩, hO⟩ := hrel
      obtain ⟨A5, c5, rfl⟩ := hO.form CeKo
      obtain ⟨⟨⟨p0, p1⟩, p2, p3, p4⟩, ⟨f0, f1⟩, ⟨rH, rV⟩, hPl, hres⟩ := hG.out wr hB2
      by_cases hiN : i < N
      ·have hii : (i : Int) < (N : Int) := by omega
       obtain ⟨k, hk⟩ : ∃ k, N - i = k + 1 := ⟨N - i - 1, by omega⟩
       have hk2 : N - (i + 1) = k := by omega
       rw [hk] at hce
       have hx0 := hPM.at0 (i := i) (by omega)
       cases hz : at0 met i
       ·rw [hz] at hx0
        have hN0 := hid (fun h => (cels_none hz h).symm.trans hce.out)
        have hS0 := hid (fun c (h : celD p (findD p met i) = some c) => (cels_some hz h).symm.trans hce.out)
        have hcall := hid (Tcel_g p met gR gB gM i hPl hPM (by rw [hN.out]; exact hml) (by rw [hN.out]; exact hiN) hz ⟨k2, k3⟩)
        have hin := hid (find_in (p := p) (by rw [hN.out]; exact hml) (by rw [hN.out]; exact hiN) hz)
        unfold plV at hcall
        rw [hN.out, hR.out, hC.out] at hcall
        generalize findD p met i = F at *
        have hst := hid (And.intro hB2 (And.intro (And.intro t0 (And.intro t1 (And.intro t2 zt))) hO))
        clear hce hB2 hPM t0 t1 t2 zt hO hPl rH rV hres
        go_wp2_with fail
        refine hcall.out.mono ?_
        rintro e x1 ⟨hPx, vc, ⟨c', rfl⟩, rfl, hcs⟩
        obtain ⟨hB2, ⟨t0, t1, t2, zt⟩, hO⟩ := hst.out
        have hgM : gM < x5.heap.size := by omega
        replace t0 := hPx.keep (by omega) t0
        replace t1 := hPx.keep (by omega) t1
        replace t2 := hPx.keep (by omega) t2
        replace zt := hPx.oz (by omega) zt
        replace hO := hO.grown hPx.gb (.inr fun e => by have := (hO.lt e).1; omega)
        replace hB2 := hB2.pxr hPx
        have hPM := hPx.a
        have hsx1 := hB2.size
        clear hst hcall hPx hx0 p0 p1 p2 p3 p4 f0 f1
        cases hcd : celD p F with
        | none =>
         obtain rfl := h4f.out (hN0.out hcd).symm
         unfold ce0
         go_upto_region 17 with fail
         refine enterR (P := fun u => Code.wp _ _ _ _ u) (c := [.int .i64 c'.r, .int .i64 c'.c, .int .i64 c'.rs, .int .i64 c'.cs, .int .i64 0, .int .i64 0, .int .i64 0, .int .i64 0]) ?_
         intro x2' hbx rc zc hsc
         replace hB2 := hB2.below hbx
         obtain ⟨-, -, -, -, r0, zn, HB⟩ := hG.out x2' hB2
         clear hG hN0 hS0 hcs hbx rc zc hsc hcd t0 t1 t2 zt hO hPM hB2 h4f h5f hin
         have k0 : (x2').cell? ⟨w.heap.size, 0, none⟩ = some (.int .i64 0) := r0 0 _ rfl
         have k1 : (x2').cell? ⟨w.heap.size, 1, none⟩ = some (.int .i64 0) := r0 1 _ rfl
         have k2 : (x2').cell? ⟨w.heap.size, 2, none⟩ = some (.slice none 0 0) := r0 2 _ rfl
         have ltk := cell_lt k0
         have fk := zn.fr
         have HBf := hid (below_set (below_set (below_set HB (Nat.le_refl _) 0 (.int .i64 0)) (Nat.le_refl _) 1 (.int .i64 0)) (Nat.le_refl _) 2 (.slice none 0 0))
         clear r0 zn HB
         go_wp2
         refine bodyPost_ret (v := .tuple #[.agg #[.int .i64 0, .int .i64 0, .slice none 0 0], .int .i64 (9)]) ?_ rfl ?_
         ·simp [results, Try.results9, go_sem, k0, k1, k2]
         ·exact ⟨none, 0, rfl, Knd.Rd.nil _, HBf.out⟩
        | some cc =>
         obtain ⟨tt, ll, RS, CS, rfl, e1, e2, e3, e4⟩ := cel_in hin.out hcd
         rw [hcs _ hcd]
         unfold ce0
         dsimp only
         have hS1 := hid (hS0.out _ hcd)
         have hFl := hin.out.len
         rw [hN.out] at hFl
         rw [hR.out] at e3
         rw [hC.out] at e4
         clear hS0 hN0 hcs hcd hin
         go_upto_region 17 with fail
         refine enterR (P := fun u => Code.wp _ _ _ _ u) (c := [.int .i64 (tt : Int), .int .i64 (ll : Int), .int .i64 (RS : Int), .int .i64 (CS : Int), .int .i64 0, .int .i64 0, .int .i64 0, .int .i64 0]) ?_
         intro x2' hbx rc zc hsc
         replace hB2 := hB2.below hbx
         have hoc : (Value.slice A5 Lc.length c5).ownBlock ≠ some x1.heap.size := fun e => by have := (hO.lt e).2; omega
         replace hO := hO.below hbx
         replace t0 := keep_cell hbx t0
         replace t1 := keep_cell hbx t1
         replace t2 := keep_cell hbx t2
         replace zt := zt.below hbx
         replace hPM := hPM.below hbx
         obtain ⟨-, ⟨f0, f1⟩, ⟨rH, rV⟩, -, -⟩ := hG.out x2' hB2
         have hgc : x5.heap.size ≤ x1.heap.size := hsx1
         obtain ⟨gc, hgc0⟩ : ∃ g, x1.heap.size = g := ⟨_, rfl⟩
         rw [hgc0] at rc zc hgc hoc ⊢
         clear hbx hsc hgc0
         have vl : ll < f.V.length := by rw [hnV.out]; have := hRC1.out; omega
         have vr : ll + CS < f.V.length := by rw [hnV.out]; have := hRC1.out; omega
         have hl1 : tt < f.H.length := by rw [hnH.out]; have := hRC1.out; omega
         have hr1 : tt + RS < f.H.length := by rw [hnH.out]; have := hRC1.out; omega
         obtain ⟨b1, o1, ea, ha⟩ := rV.at_ vl
         obtain ⟨b1', o1', eb, hb⟩ := rV.at_ vr
         obtain ⟨b2, o2, ec, hc⟩ := rH.at_ hl1
         obtain ⟨b2', o2', ed, hd⟩ := rH.at_ hr1
         rw [ea] at eb
         rw [ec] at ed
         simp only [Option.some.injEq, Addr.mk.injEq, and_true] at eb ed
         obtain ⟨rfl, rfl⟩ := eb
         obtain ⟨rfl, rfl⟩ := ed
         subst ea ec
         obtain ⟨ha0, ha1⟩ := bd2 ha
         obtain ⟨hb0, -⟩ := bd2 hb
         obtain ⟨hc0, hc1⟩ := bd2 hc
         obtain ⟨hd0, -⟩ := bd2 hd
         obtain ⟨⟨s1, s2⟩, s3, s4⟩ := bV _ (List.getElem_mem vl)
         obtain ⟨⟨s5, s6⟩, -, -⟩ := bV _ (List.getElem_mem vr)
         obtain ⟨⟨s7, s8⟩, s9, s10⟩ := bH _ (List.getElem_mem hl1)
         obtain ⟨⟨s11, s12⟩, -, -⟩ := bH _ (List.getElem_mem hr1)
         have hbox : boxC f ⟨tt, ll, RS, CS, ⟨0, 0, 0, 0⟩⟩ = ⟨tt, ll, RS, CS, ⟨f.V[ll].1 + f.V[ll].2, f.H[tt].1 + f.H[tt].2, f.V[ll + CS].1 - (f.V[ll].1 + f.V[ll].2), f.H[tt + RS].1 - (f.H[tt].1 + f.H[tt].2)⟩⟩ := by
          unfold boxC
          dsimp only
          rw [← Int.natCast_add, ← Int.natCast_add]
          simp only [Int.toNat_natCast, List.getD_eq_getElem?_getD, List.getElem?_eq_getElem vl, List.getElem?_eq_getElem vr, List.getElem?_eq_getElem hl1, List.getElem?_eq_getElem hr1, Option.getD_some]
         rw [hbox] at hS1
         clear ha hb hc hd hbox rH rV
         generalize f.V[ll] = va at *
         generalize f.V[ll + CS] = vb at *
         generalize f.H[tt] = va' at *
         generalize f.H[tt + RS] = vb' at *
         obtain ⟨a0, a1⟩ := va
         obtain ⟨b0, b9⟩ := vb
         obtain ⟨d0, d1⟩ := va'
         obtain ⟨z0, z9⟩ := vb'
         replace ha0 : x2'.cell? ⟨b1, o1 + ll * 2, none⟩ = some (.int .i64 a0) := ha0
         replace ha1 : x2'.cell? ⟨b1, o1 + ll * 2 + 1, none⟩ = some (.int .i64 a1) := ha1
         replace hb0 : x2'.cell? ⟨b1, o1 + (ll + CS) * 2, none⟩ = some (.int .i64 b0) := hb0
         replace hc0 : x2'.cell? ⟨b2, o2 + tt * 2, none⟩ = some (.int .i64 d0) := hc0
         replace hc1 : x2'.cell? ⟨b2, o2 + tt * 2 + 1, none⟩ = some (.int .i64 d1) := hc1
         replace hd0 : x2'.cell? ⟨b2, o2 + (tt + RS) * 2, none⟩ = some (.int .i64 z0) := hd0
         dsimp only at s1 s2 s3 s4 s5 s6 s7 s8 s9 s10 s11 s12 hS1
         obtain ⟨bx, hbxd⟩ : ∃ x, a0 + a1 = x := ⟨_, rfl⟩
         obtain ⟨bY, hbyd⟩ : ∃ x, d0 + d1 = x := ⟨_, rfl⟩
         rw [hbxd, hbyd] at hS1
         obtain ⟨bw, hbwd⟩ : ∃ x, b0 - bx = x := ⟨_, rfl⟩
         obtain ⟨bh, hbhd⟩ : ∃ x, z0 - bY = x := ⟨_, rfl⟩
         rw [hbwd, hbhd] at hS1
         have w1 : IntKind.i64.wrap (a0 + a1) = bx := by rw [IntKind.wrap_i64]; omega
         have w2 : IntKind.i64.wrap (d0 + d1) = bY := by rw [IntKind.wrap_i64]; omega
         have w3 : IntKind.i64.wrap (b0 - bx) = bw := by rw [IntKind.wrap_i64]; omega
         have w4 : IntKind.i64.wrap (z0 - bY) = bh := by rw [IntKind.wrap_i64]; omega
         have w5 : IntKind.i64.wrap ((ll : Int) + (CS : Int)) = ((ll + CS : Nat) : Int) := by rw [IntKind.wrap_i64]; omega
         have w6 : IntKind.i64.wrap ((tt : Int) + (RS : Int)) = ((tt + RS : Nat) : Int) := by rw [IntKind.wrap_i64]; omega
         have i1 : (ll : Int) < (nV : Int) := by rw [hnV.out] at vl; omega
         have i2 : ((ll + CS : Nat) : Int) < (nV : Int) := by rw [hnV.out] at vr; omega
         have i3 : (tt : Int) < (nH : Int) := by rw [hnH.out] at hl1; omega
         have i4 : ((tt + RS : Nat) : Int) < (nH : Int) := by rw [hnH.out] at hr1; omega
         clear vl vr hl1 hr1
         obtain ⟨lc, hlc⟩ : ∃ x, ll + CS = x := ⟨_, rfl⟩
         obtain ⟨tr, htr⟩ : ∃ x, tt + RS = x := ⟨_, rfl⟩
         rw [hlc] at hb0 w5 i2
         rw [htr] at hd0 w6 i4
         clear s1 s2 s3 s4 s5 s6 s7 s8 s9 s10 s11 s12 hbxd hbyd hbwd hbhd hlc htr
         have m0 : x2'.cell? ⟨gc, 0, none⟩ = some (.int .i64 (tt : Int)) := rc 0 _ rfl
         have m1 : x2'.cell? ⟨gc, 1, none⟩ = some (.int .i64 (ll : Int)) := rc 1 _ rfl
         have m2 : x2'.cell? ⟨gc, 2, none⟩ = some (.int .i64 (RS : Int)) := rc 2 _ rfl
         have m3 : x2'.cell? ⟨gc, 3, none⟩ = some (.int .i64 (CS : Int)) := rc 3 _ rfl
         have hst := hid (And.intro hB2 (And.intro hPM (And.intro zt hO)))
         have hmc := hid (And.intro rc zc)
         have hls := hid hll
         clear hB2 hPM zt hO rc zc hll hsx1
         go_upto_region 19 with fail
         go_quiet (fail)
         have hv : Below x2'.heap.size x2' (x2'.drewN nq) := below_drewN (Below.refl _ _) _
         generalize x2'.drewN nq = y1 at hv ⊢
         replace f0 := keep_cell hv f0
         replace f1 := keep_cell hv f1
         replace ha0 := keep_cell hv ha0
         replace ha1 := keep_cell hv ha1
         replace hb0 := keep_cell hv hb0
         replace hc0 := keep_cell hv hc0
         replace hc1 := keep_cell hv hc1
         replace hd0 := keep_cell hv hd0
         replace m0 := keep_cell hv m0
         replace m1 := keep_cell hv m1
         replace m2 := keep_cell hv m2
         replace m3 := keep_cell hv m3
         go_upto_region 20 with fail
         go_quiet (fail)
         have hv2 : Below x2'.heap.size x2' (y1.drewN nq) := below_drewN hv _
         have hv3 : Below y1.heap.size y1 (y1.drewN nq) := below_drewN (Below.refl _ _) _
         generalize y1.drewN nq = y2 at hv2 hv3 ⊢
         replace f0 := keep_cell hv3 f0
         replace f1 := keep_cell hv3 f1
         replace ha0 := keep_cell hv3 ha0
         replace ha1 := keep_cell hv3 ha1
         replace hb0 := keep_cell hv3 hb0
         replace hc0 := keep_cell hv3 hc0
         replace hc1 := keep_cell hv3 hc1
         replace hd0 := keep_cell hv3 hd0
         replace m0 := keep_cell hv3 m0
         replace m1 := keep_cell hv3 m1
         replace m2 := keep_cell hv3 m2
         replace m3 := keep_cell hv3 m3
         clear hv hv3 y1
         have m4 : y2.cell? ⟨gc, 4, none⟩ = some (.int .i64 0) := keep_cell hv2 (hmc.out.1 4 _ rfl)
         have m5 : y2.cell? ⟨gc, 5, none⟩ = some (.int .i64 0) := keep_cell hv2 (hmc.out.1 5 _ rfl)
         have m6 : y2.cell? ⟨gc, 6, none⟩ = some (.int .i64 0) := keep_cell hv2 (hmc.out.1 6 _ rfl)
         have m7 : y2.cell? ⟨gc, 7, none⟩ = some (.int .i64 0) := keep_cell hv2 (hmc.out.1 7 _ rfl)
         have mf := (hmc.out.2.below hv2).fr
         go_upto_region 21 with fail
         refine Ords.start (x := 28) (S := fun w' => ((w'.cell? ⟨gf, 0, none⟩ = some (.slice (some ⟨b2, o2, none⟩) nH c1) ∧ w'.cell? ⟨gf, 1, none⟩ = some (.slice (some ⟨b1, o1, none⟩) nV c2)) ∧ w'.cell? ⟨b1, o1 + lc * 2, none⟩ = some (.int .i64 b0) ∧ w'.cell? ⟨b2, o2 + tr * 2, none⟩ = some (.int .i64 z0)) ∧ (w'.cell? ⟨gc, 0, none⟩ = some (.int .i64 (tt : Int)) ∧ w'.cell? ⟨gc, 1, none⟩ = some (.int .i64 (ll : Int))) ∧ w'.cell? ⟨gc, 2, none⟩ = some (.int .i64 (RS : Int)) ∧ w'.cell? ⟨gc, 3, none⟩ = some (.int .i64 (CS : Int))) (by kernel_rfl) ⟨⟨⟨f0, f1⟩, hb0, hd0⟩, ⟨m0, m1⟩, m2, m3⟩ (fun hHeld => ?_)
         clear f0 f1 ha0 ha1 hb0 hc0 hc1 hd0 m0 m1 m2 m3
         have m4d := keep_drew m4
         have m5d := keep_drew m5
         have m6d := keep_drew m6
         have m7d := keep_drew m7
         have hvd : Below x2'.heap.size x2' y2.drew := hv2.drew
         have mfd := (hmc.out.2.below hvd).fr
         clear m4 m5 m6 m7 mf hv2
         generalize y2.drew = y3 at hHeld m4d m5d m6d m7d hvd mfd ⊢
         refine' Ords.take (i := 0) ?_ ?_ ?_ ?_ ?_ ?_ ?_ ?_ ?_
         rotate_left 2
         ·(simp only [List.getElem?_toArray, List.getElem?_cons_succ, List.getElem?_cons_zero]; rfl)
         ·kernel_rfl
         ·kernel_rfl
         ·kernel_rfl
         ·kernel_rfl
         ·exact fun _ _ _ h => h
         ·(refine Or.inl ⟨by rfl, ?_⟩; intro w_ hSw_; (try dsimp only at hSw_); go_simp; (try with_reducible rfl))
         ·assumption
         (try simp only [Act.put, Lp0, Lp1, Lp2])
         refine' Ords.take (i := 1) ?_ ?_ ?_ ?_ ?_ ?_ ?_ ?_ ?_
         rotate_left 2
         ·(simp only [List.getElem?_toArray, List.getElem?_cons_succ, List.getElem?_cons_zero]; rfl)
         ·kernel_rfl
         ·kernel_rfl
         ·kernel_rfl
         ·kernel_rfl
         ·exact fun _ _ _ h => h
         ·(refine Or.inl ⟨by rfl, ?_⟩; intro w_ hSw_; (try dsimp only at hSw_); go_simp; (try with_reducible rfl))
         ·assumption
         (try simp only [Act.put, Lp0, Lp1, Lp2])
         refine' Ords.take (i := 2) ?_ ?_ ?_ ?_ ?_ ?_ ?_ ?_ ?_
         rotate_left 2
         ·(simp only [List.getElem?_toArray, List.getElem?_cons_succ, List.getElem?_cons_zero]; rfl)
         ·kernel_rfl
         ·kernel_rfl
         ·kernel_rfl
         ·kernel_rfl
         ·exact fun _ _ _ h => h
         ·(refine Or.inl ⟨by rfl, ?_⟩; intro w_ hSw_; (try dsimp only at hSw_); go_simp; (try with_reducible rfl))
         ·assumption
         (try simp only [Act.put, Lp0, Lp1, Lp2])
         refine' Ords.take (i := 3) ?_ ?_ ?_ ?_ ?_ ?_ ?_ ?_ ?_
         rotate_left 2
         ·(simp only [List.getElem?_toArray, List.getElem?_cons_succ, List.getElem?_cons_zero]; rfl)
         ·kernel_rfl
         ·kernel_rfl
         ·kernel_rfl
         ·kernel_rfl
         ·exact fun _ _ _ h => h
         ·(refine Or.inl ⟨by rfl, ?_⟩; intro w_ hSw_; (try dsimp only at hSw_); go_simp; (try with_reducible rfl))
         ·assumption
         (try simp only [Act.put, Lp0, Lp1, Lp2])
         refine' Ords.take (i := 4) ?_ ?_ ?_ ?_ ?_ ?_ ?_ ?_ ?_
         rotate_left 2
         ·(simp only [List.getElem?_toArray, List.getElem?_cons_succ, List.getElem?_cons_zero]; rfl)
         ·kernel_rfl
         ·kernel_rfl
         ·kernel_rfl
         ·kernel_rfl
         ·exact fun _ _ _ h => h
         ·(refine Or.inl ⟨by rfl, ?_⟩; intro w_ hSw_; (try dsimp only at hSw_); go_simp; (try with_reducible rfl))
         ·assumption
         (try simp only [Act.put, Lp0, Lp1, Lp2])
         refine' Ords.take (i := 5) ?_ ?_ ?_ ?_ ?_ ?_ ?_ ?_ ?_
         rotate_left 2
         ·(simp only [List.getElem?_toArray, List.getElem?_cons_succ, List.getElem?_cons_zero]; rfl)
         ·kernel_rfl
         ·kernel_rfl
         ·kernel_rfl
         ·kernel_rfl
         ·exact fun _ _ _ h => h
         ·(refine Or.inl ⟨by rfl, ?_⟩; intro w_ hSw_; (try dsimp only at hSw_); go_simp; (try with_reducible rfl))
         ·assumption
         (try simp only [Act.put, Lp0, Lp1, Lp2])
         refine' Ords.take (i := 6) ?_ ?_ ?_ ?_ ?_ ?_ ?_ ?_ ?_
         rotate_left 2
         ·(simp only [List.getElem?_toArray, List.getElem?_cons_succ, List.getElem?_cons_zero]; rfl)
         ·kernel_rfl
         ·kernel_rfl
         ·kernel_rfl
         ·kernel_rfl
         ·exact fun _ _ _ h => h
         ·(refine Or.inl ⟨by rfl, ?_⟩; intro w_ hSw_; (try dsimp only at hSw_); go_simp; (try with_reducible rfl))
         ·assumption
         (try simp only [Act.put, Lp0, Lp1, Lp2])
         refine' Ords.take (i := 7) ?_ ?_ ?_ ?_ ?_ ?_ ?_ ?_ ?_
         rotate_left 2
         ·(simp only [List.getElem?_toArray, List.getElem?_cons_succ, List.getElem?_cons_zero]; rfl)
         ·kernel_rfl
         ·kernel_rfl
         ·kernel_rfl
         ·kernel_rfl
         ·exact fun _ _ _ h => h
         ·(refine Or.inl ⟨by rfl, ?_⟩; intro w_ hSw_; (try dsimp only at hSw_); go_simp; (try with_reducible rfl))
         ·assumption
         (try simp only [Act.put, Lp0, Lp1, Lp2])
         refine' Ords.take (i := 8) ?_ ?_ ?_ ?_ ?_ ?_ ?_ ?_ ?_
         rotate_left 2
         ·(simp only [List.getElem?_toArray, List.getElem?_cons_succ, List.getElem?_cons_zero]; rfl)
         ·kernel_rfl
         ·kernel_rfl
         ·kernel_rfl
         ·kernel_rfl
         ·exact fun _ _ _ h => h
         ·(refine Or.inl ⟨by rfl, ?_⟩; intro w_ hSw_; (try dsimp only at hSw_); go_simp; (try with_reducible rfl))
         ·assumption
         (try simp only [Act.put, Lp0, Lp1, Lp2])
         refine' Ords.take (i := 9) ?_ ?_ ?_ ?_ ?_ ?_ ?_ ?_ ?_
         rotate_left 2
         ·(simp only [List.getElem?_toArray, List.getElem?_cons_succ, List.getElem?_cons_zero]; rfl)
         ·kernel_rfl
         ·kernel_rfl
         ·kernel_rfl
         ·kernel_rfl
         ·exact fun _ _ _ h => h
         ·(refine Or.inl ⟨by rfl, ?_⟩; intro w_ hSw_; (try dsimp only at hSw_); go_simp; (try with_reducible rfl))
         ·assumption
         (try simp only [Act.put, Lp0, Lp1, Lp2])
         refine' Ords.take (i := 10) ?_ ?_ ?_ ?_ ?_ ?_ ?_ ?_ ?_
         rotate_left 2
         ·(simp only [List.getElem?_toArray, List.getElem?_cons_succ, List.getElem?_cons_zero]; rfl)
         ·kernel_rfl
         ·kernel_rfl
         ·kernel_rfl
         ·kernel_rfl
         ·exact fun _ _ _ h => h
         ·(refine Or.inl ⟨by rfl, ?_⟩; intro w_ hSw_; (try dsimp only at hSw_); go_simp; (try with_reducible rfl))
         ·assumption
         (try simp only [Act.put, Lp0, Lp1, Lp2])
         refine' Ords.take (i := 11) ?_ ?_ ?_ ?_ ?_ ?_ ?_ ?_ ?_
         rotate_left 2
         ·(simp only [List.getElem?_toArray, List.getElem?_cons_succ, List.getElem?_cons_zero]; rfl)
         ·kernel_rfl
         ·kernel_rfl
         ·kernel_rfl
         ·kernel_rfl
         ·exact fun _ _ _ h => h
         ·(refine Or.inl ⟨by rfl, ?_⟩; intro w_ hSw_; (try dsimp only at hSw_); go_simp; (try with_reducible rfl))
         ·assumption
         (try simp only [Act.put, Lp0, Lp1, Lp2])
         refine' Ords.take (i := 12) ?_ ?_ ?_ ?_ ?_ ?_ ?_ ?_ ?_
         rotate_left 2
         ·(simp only [List.getElem?_toArray, List.getElem?_cons_succ, List.getElem?_cons_zero]; rfl)
         ·kernel_rfl
         ·kernel_rfl
         ·kernel_rfl
         ·kernel_rfl
         ·exact fun _ _ _ h => h
         ·(refine Or.inl ⟨by rfl, ?_⟩; intro w_ hSw_; (try dsimp only at hSw_); go_simp; (try with_reducible rfl))
         ·assumption
         (try simp only [Act.put, Lp0, Lp1, Lp2])
         refine' Ords.take (i := 13) ?_ ?_ ?_ ?_ ?_ ?_ ?_ ?_ ?_
         rotate_left 2
         ·(simp only [List.getElem?_toArray, List.getElem?_cons_succ, List.getElem?_cons_zero]; rfl)
         ·kernel_rfl
         ·kernel_rfl
         ·kernel_rfl
         ·kernel_rfl
         ·exact fun _ _ _ h => h
         ·(refine Or.inl ⟨by rfl, ?_⟩; intro w_ hSw_; (try dsimp only at hSw_); go_simp; (try with_reducible rfl))
         ·assumption
         (try simp only [Act.put, Lp0, Lp1, Lp2])
         refine' Ords.take (i := 14) ?_ ?_ ?_ ?_ ?_ ?_ ?_ ?_ ?_
         rotate_left 2
         ·(simp only [List.getElem?_toArray, List.getElem?_cons_succ, List.getElem?_cons_zero]; rfl)
         ·kernel_rfl
         ·kernel_rfl
         ·kernel_rfl
         ·kernel_rfl
         ·exact fun _ _ _ h => h
         ·(refine Or.inl ⟨by rfl, ?_⟩; intro w_ hSw_; (try dsimp only at hSw_); go_simp; (try with_reducible rfl))
         ·assumption
         (try simp only [Act.put, Lp0, Lp1, Lp2])
         refine' Ords.take (i := 15) ?_ ?_ ?_ ?_ ?_ ?_ ?_ ?_ ?_
         rotate_left 2
         ·(simp only [List.getElem?_toArray, List.getElem?_cons_succ, List.getElem?_cons_zero]; rfl)
         ·kernel_rfl
         ·kernel_rfl
         ·kernel_rfl
         ·kernel_rfl
         ·exact fun _ _ _ h => h
         ·(refine Or.inl ⟨by rfl, ?_⟩; intro w_ hSw_; (try dsimp only at hSw_); go_simp; (try with_reducible rfl))
         ·assumption
         (try simp only [Act.put, Lp0, Lp1, Lp2])
         refine' Ords.take (i := 16) ?_ ?_ ?_ ?_ ?_ ?_ ?_ ?_ ?_
         rotate_left 2
         ·(simp only [List.getElem?_toArray, List.getElem?_cons_succ, List.getElem?_cons_zero]; rfl)
         ·kernel_rfl
         ·kernel_rfl
         ·kernel_rfl
         ·kernel_rfl
         ·exact fun _ _ _ h => h
         ·(refine Or.inl ⟨by rfl, ?_⟩; intro w_ hSw_; (try dsimp only at hSw_); go_simp; (try with_reducible rfl))
         ·assumption
         (try simp only [Act.put, Lp0, Lp1, Lp2])
         refine' Ords.take (i := 17) ?_ ?_ ?_ ?_ ?_ ?_ ?_ ?_ ?_
         rotate_left 2
         ·(simp only [List.getElem?_toArray, List.getElem?_cons_succ, List.getElem?_cons_zero]; rfl)
         ·kernel_rfl
         ·kernel_rfl
         ·kernel_rfl
         ·kernel_rfl
         ·exact fun _ _ _ h => h
         ·(refine Or.inl ⟨by rfl, ?_⟩; intro w_ hSw_; (try dsimp only at hSw_); go_simp; (try with_reducible rfl))
         ·assumption
         (try simp only [Act.put, Lp0, Lp1, Lp2])
         refine' Ords.take (i := 18) ?_ ?_ ?_ ?_ ?_ ?_ ?_ ?_ ?_
         rotate_left 2
         ·(simp only [List.getElem?_toArray, List.getElem?_cons_succ, List.getElem?_cons_zero]; rfl)
         ·kernel_rfl
         ·kernel_rfl
         ·kernel_rfl
         ·kernel_rfl
         ·exact fun _ _ _ h => h
         ·(refine Or.inl ⟨by rfl, ?_⟩; intro w_ hSw_; (try dsimp only at hSw_); go_simp; (try with_reducible rfl))
         ·assumption
         (try simp only [Act.put, Lp0, Lp1, Lp2])
         refine' Ords.take (i := 19) ?_ ?_ ?_ ?_ ?_ ?_ ?_ ?_ ?_
         rotate_left 2
         ·(simp only [List.getElem?_toArray, List.getElem?_cons_succ, List.getElem?_cons_zero]; rfl)
         ·kernel_rfl
         ·kernel_rfl
         ·kernel_rfl
         ·kernel_rfl
         ·exact fun _ _ _ h => h
         ·(refine Or.inl ⟨by rfl, ?_⟩; intro w_ hSw_; (try dsimp only at hSw_); go_simp; (try with_reducible rfl))
         ·assumption
         (try simp only [Act.put, Lp0, Lp1, Lp2])
         refine' Ords.take (i := 20) ?_ ?_ ?_ ?_ ?_ ?_ ?_ ?_ ?_
         rotate_left 2
         ·(simp only [List.getElem?_toArray, List.getElem?_cons_succ, List.getElem?_cons_zero]; rfl)
         ·kernel_rfl
         ·kernel_rfl
         ·kernel_rfl
         ·kernel_rfl
         ·exact fun _ _ _ h => h
         ·(refine Or.inl ⟨by rfl, ?_⟩; intro w_ hSw_; (try dsimp only at hSw_); go_simp; (try with_reducible rfl))
         ·assumption
         (try simp only [Act.put, Lp0, Lp1, Lp2])
         refine' Ords.take (i := 21) ?_ ?_ ?_ ?_ ?_ ?_ ?_ ?_ ?_
         rotate_left 2
         ·(simp only [List.getElem?_toArray, List.getElem?_cons_succ, List.getElem?_cons_zero]; rfl)
         ·kernel_rfl
         ·kernel_rfl
         ·kernel_rfl
         ·kernel_rfl
         ·exact fun _ _ _ h => h
         ·(refine Or.inl ⟨by rfl, ?_⟩; intro w_ hSw_; (try dsimp only at hSw_); go_simp; (try with_reducible rfl))
         ·assumption
         (try simp only [Act.put, Lp0, Lp1, Lp2])
         refine' Ords.take (i := 22) ?_ ?_ ?_ ?_ ?_ ?_ ?_ ?_ ?_
         rotate_left 2
         ·(simp only [List.getElem?_toArray, List.getElem?_cons_succ, List.getElem?_cons_zero]; rfl)
         ·kernel_rfl
         ·kernel_rfl
         ·kernel_rfl
         ·kernel_rfl
         ·exact fun _ _ _ h => h
         ·(refine Or.inl ⟨by rfl, ?_⟩; intro w_ hSw_; (try dsimp only at hSw_); go_simp; (try with_reducible rfl))
         ·assumption
         (try simp only [Act.put, Lp0, Lp1, Lp2])
         refine' Ords.take (i := 23) ?_ ?_ ?_ ?_ ?_ ?_ ?_ ?_ ?_
         rotate_left 2
         ·(simp only [List.getElem?_toArray, List.getElem?_cons_succ, List.getElem?_cons_zero]; rfl)
         ·kernel_rfl
         ·kernel_rfl
         ·kernel_rfl
         ·kernel_rfl
         ·exact fun _ _ _ h => h
         ·(refine Or.inl ⟨by rfl, ?_⟩; intro w_ hSw_; (try dsimp only at hSw_); go_simp; (try with_reducible rfl))
         ·assumption
         (try simp only [Act.put, Lp0, Lp1, Lp2])
         refine' Ords.take (i := 24) ?_ ?_ ?_ ?_ ?_ ?_ ?_ ?_ ?_
         rotate_left 2
         ·(simp only [List.getElem?_toArray, List.getElem?_cons_succ, List.getElem?_cons_zero]; rfl)
         ·kernel_rfl
         ·kernel_rfl
         ·kernel_rfl
         ·kernel_rfl
         ·exact fun _ _ _ h => h
         ·(refine Or.inl ⟨by rfl, ?_⟩; intro w_ hSw_; (try dsimp only at hSw_); go_simp; (try with_reducible rfl))
         ·assumption
         (try simp only [Act.put, Lp0, Lp1, Lp2])
         refine' Ords.take (i := 25) ?_ ?_ ?_ ?_ ?_ ?_ ?_ ?_ ?_
         rotate_left 2
         ·(simp only [List.getElem?_toArray, List.getElem?_cons_succ, List.getElem?_cons_zero]; rfl)
         ·kernel_rfl
         ·kernel_rfl
         ·kernel_rfl
         ·kernel_rfl
         ·exact fun _ _ _ h => h
         ·(refine Or.inl ⟨by rfl, ?_⟩; intro w_ hSw_; (try dsimp only at hSw_); go_simp; (try with_reducible rfl))
         ·assumption
         (try simp only [Act.put, Lp0, Lp1, Lp2])
         refine' Ords.take (i := 26) ?_ ?_ ?_ ?_ ?_ ?_ ?_ ?_ ?_
         rotate_left 2
         ·(simp only [List.getElem?_toArray, List.getElem?_cons_succ, List.getElem?_cons_zero]; rfl)
         ·kernel_rfl
         ·kernel_rfl
         ·kernel_rfl
         ·kernel_rfl
         ·exact fun _ _ _ h => h
         ·(refine Or.inl ⟨by rfl, ?_⟩; intro w_ hSw_; (try dsimp only at hSw_); go_simp; (try with_reducible rfl))
         ·assumption
         (try simp only [Act.put, Lp0, Lp1, Lp2])
         refine' Ords.take (i := 27) ?_ ?_ ?_ ?_ ?_ ?_ ?_ ?_ ?_
         rotate_left 2
         ·(simp only [List.getElem?_toArray, List.getElem?_cons_succ, List.getElem?_cons_zero]; rfl)
         ·kernel_rfl
         ·kernel_rfl
         ·kernel_rfl
         ·kernel_rfl
         ·exact fun _ _ _ h => h
         ·(refine Or.inl ⟨by rfl, ?_⟩; intro w_ hSw_; (try dsimp only at hSw_); go_simp; (try with_reducible rfl))
         ·assumption
         (try simp only [Act.put, Lp0, Lp1, Lp2])
         refine' Ords.last (by kernel_rfl) (by simp only [List.getElem?_toArray, List.getElem?_cons_succ, List.getElem?_cons_zero]; rfl) (by kernel_rfl) (fun K hK => ?_)
         go_simp
         (try go_wp2_with fail)
         refine hK.out _ _ ?_
         clear hK K
         (try simp only [Act.put, Lp0, Lp1, Lp2])
         obtain ⟨-, ⟨m0, m1⟩, m2, m3⟩ := hHeld
         obtain ⟨hB2, hPM, zt, hO⟩ := hst.out
         have hT5 : gT < x5.heap.size := lt5
         have hMT5 : gM ≠ gT := by omega
         have hgTc : gc ≠ gT := by omega
         have hgMc : gc ≠ gM := by omega
         have hll := hls.out
         have hB3 := (((((hB2.below hvd).set (i := 4) (v := .int .i64 bx) (.inl hgc)).set (i := 5) (v := .int .i64 bY) (.inl hgc)).set (i := 6) (v := .int .i64 bw) (.inl hgc)).set (i := 7) (v := .int .i64 bh) (.inl hgc))
         have hP3 := ((((hPM.below hvd).far (i := 4) (v := .int .i64 bx) hgMc).far (i := 5) (v := .int .i64 bY) hgMc).far (i := 6) (v := .int .i64 bw) hgMc).far (i := 7) (v := .int .i64 bh) hgMc
         have hO3 := ((((hO.below hvd).grown (gb_set (g := gc) (i := 4) (v := .int .i64 bx)) (.inr hoc)).grown (gb_set (g := gc) (i := 5) (v := .int .i64 bY)) (.inr hoc)).grown (gb_set (g := gc) (i := 6) (v := .int .i64 bw)) (.inr hoc)).grown (gb_set (g := gc) (i := 7) (v := .int .i64 bh)) (.inr hoc)
         have hz3 := (zt.below hvd).set_ (k := gc) (i := 4) (v := .int .i64 bx) |>.set_ (k := gc) (i := 5) (v := .int .i64 bY) |>.set_ (k := gc) (i := 6) (v := .int .i64 bw) |>.set_ (k := gc) (i := 7) (v := .int .i64 bh)
         have t0' := keep_set (i := 7) (u := .int .i64 bh) hgTc (keep_set (i := 6) (u := .int .i64 bw) hgTc (keep_set (i := 5) (u := .int .i64 bY) hgTc (keep_set (i := 4) (u := .int .i64 bx) hgTc (keep_cell hvd t0))))
         have t1' := keep_set (i := 7) (u := .int .i64 bh) hgTc (keep_set (i := 6) (u := .int .i64 bw) hgTc (keep_set (i := 5) (u := .int .i64 bY) hgTc (keep_set (i := 4) (u := .int .i64 bx) hgTc (keep_cell hvd t1))))
         have t2' := keep_set (i := 7) (u := .int .i64 bh) hgTc (keep_set (i := 6) (u := .int .i64 bw) hgTc (keep_set (i := 5) (u := .int .i64 bY) hgTc (keep_set (i := 4) (u := .int .i64 bx) hgTc (keep_cell hvd t2))))
         obtain ⟨z, hz⟩ : ∃ z, (((y3.setCell ⟨gc, 4, none⟩ (.int .i64 bx)).setCell ⟨gc, 5, none⟩ (.int .i64 bY)).setCell ⟨gc, 6, none⟩ (.int .i64 bw)).setCell ⟨gc, 7, none⟩ (.int .i64 bh) = z := ⟨_, rfl⟩
         have n0 : z.cell? ⟨gc, 0, none⟩ = some (.int .i64 (tt : Int)) := by rw [← hz]; exact (cell_set_ne (by omega)).trans ((cell_set_ne (by omega)).trans ((cell_set_ne (by omega)).trans ((cell_set_ne (by omega)).trans m0)))
         have n1 : z.cell? ⟨gc, 1, none⟩ = some (.int .i64 (ll : Int)) := by rw [← hz]; exact (cell_set_ne (by omega)).trans ((cell_set_ne (by omega)).trans ((cell_set_ne (by omega)).trans ((cell_set_ne (by omega)).trans m1)))
         have n2 : z.cell? ⟨gc, 2, none⟩ = some (.int .i64 (RS : Int)) := by rw [← hz]; exact (cell_set_ne (by omega)).trans ((cell_set_ne (by omega)).trans ((cell_set_ne (by omega)).trans ((cell_set_ne (by omega)).trans m2)))
         have n3 : z.cell? ⟨gc, 3, none⟩ = some (.int .i64 (CS : Int)) := by rw [← hz]; exact (cell_set_ne (by omega)).trans ((cell_set_ne (by omega)).trans ((cell_set_ne (by omega)).trans ((cell_set_ne (by omega)).trans m3)))
         have n4 : z.cell? ⟨gc, 4, none⟩ = some (.int .i64 bx) := by rw [← hz]; exact (cell_set_ne (by omega)).trans ((cell_set_ne (by omega)).trans ((cell_set_ne (by omega)).trans (at_set m4d)))
         have n5 : z.cell? ⟨gc, 5, none⟩ = some (.int .i64 bY) := by rw [← hz]; exact (cell_set_ne (by omega)).trans ((cell_set_ne (by omega)).trans (at_set ((cell_set_ne (by omega)).trans m5d)))
         have n6 : z.cell? ⟨gc, 6, none⟩ = some (.int .i64 bw) := by rw [← hz]; exact (cell_set_ne (by omega)).trans (at_set ((cell_set_ne (by omega)).trans ((cell_set_ne (by omega)).trans m6d)))
         have n7 : z.cell? ⟨gc, 7, none⟩ = some (.int .i64 bh) := by rw [← hz]; exact at_set ((cell_set_ne (by omega)).trans ((cell_set_ne (by omega)).trans ((cell_set_ne (by omega)).trans m7d)))
         rw [hz] at hB3 hP3 hO3 hz3 t0' t1' t2' ⊢
         clear hz m0 m1 m2 m3 m4d m5d m6d m7d mfd hvd hB2 hPM zt hO hst hls hmc t0 t1 t2
         rw [← hk2] at hS1
         have zsz := hB3.size
         have hbA : Below z.heap.size z (z.alloc (.cells #[.int .i64 (tt : Int), .int .i64 (ll : Int), .int .i64 (RS : Int), .int .i64 (CS : Int), .int .i64 bx, .int .i64 bY, .int .i64 bw, .int .i64 bh] 38)) := (Below.refl _ _).alloc (Nat.le_refl _) _
         have hr := rng_alloc (w := z) (cs := [.int .i64 (tt : Int), .int .i64 (ll : Int), .int .i64 (RS : Int), .int .i64 (CS : Int), .int .i64 bx, .int .i64 bY, .int .i64 bw, .int .i64 bh]) (t := 38)
         have hBa := hid (hB3.below hbA)
         have hPa := hid (hP3.below hbA)
         have hOa := hid (hO3.below hbA)
         have hza := hid (hz3.below hbA)
         have tta := hid (And.intro (keep_cell hbA t0') (keep_cell hbA t1'))
         have t2a := keep_cell hbA t2'
         clear hB3 hP3 hO3 hz3 t0' t1' hbA
         go_wp2_with (at_builtin; go_loud (refine Knd.app1 CeKo rfl (.tmp 123) (.tmp 125) rfl x5.heap.size (.slice A5 Lc.length c5) Lc ⟨tt, ll, RS, CS, ⟨bx, bY, bw, bh⟩⟩ z.heap.size rfl hOa.out rfl hr (by omega) (by simp only [World.size_alloc]; omega) ?_); intro v' w' hO' hg' hat'; go_loud (obtain ⟨A6, c6, e6⟩ := hO'.form CeKo; obtain ⟨L6, hL6⟩ : ∃ m, (Lc ++ [(⟨tt, ll, RS, CS, ⟨bx, bY, bw, bh⟩⟩ : Ce)]).length = m := ⟨_, rfl⟩; rw [hL6] at e6; replace hL6 := hid hL6; subst e6; have hsy := grd_app hBa.out hPa.out hOa.out hza.out tta.out.1 tta.out.2 hO' hg' hgM hT5 hMT5; have t2b := hg'.cell t2a (show some gT ≠ _ from fun e => by have := (hOa.out.lt e.symm).1; omega); have hfT := hsy.2.2.2.1.fr; have hsy := hid hsy; clear hg' hat' hO' hBa hPa hOa hza tta t2a hr n0 n1 n2 n3 n4 n5 n6 n7 t2'))
         have hfl : (Lc ++ [(⟨tt, ll, RS, CS, ⟨bx, bY, bw, bh⟩⟩ : Ce)]).length ≤ i + 1 := by simp; omega
         have hres := hid (show But2 x5 (w'.setCell ⟨gT, 2, none⟩ (.slice A6 L6 c6)) gM gT ∧ PxA (w'.setCell ⟨gT, 2, none⟩ (.slice A6 L6 c6)) gM F.met ∧ ((w'.setCell ⟨gT, 2, none⟩ (.slice A6 L6 c6)).cell? ⟨gT, 0, none⟩ = some (.int .i64 (R : Int)) ∧ (w'.setCell ⟨gT, 2, none⟩ (.slice A6 L6 c6)).cell? ⟨gT, 1, none⟩ = some (.int .i64 (C : Int)) ∧ (w'.setCell ⟨gT, 2, none⟩ (.slice A6 L6 c6)).cell? ⟨gT, 2, none⟩ = some (.slice A6 L6 c6) ∧ Zn (w'.setCell ⟨gT, 2, none⟩ (.slice A6 L6 c6)) gT) ∧ CeK.Own (w'.setCell ⟨gT, 2, none⟩ (.slice A6 L6 c6)) x5.heap.size (.slice A6 L6 c6) (Lc ++ [⟨tt, ll, RS, CS, ⟨bx, bY, bw, bh⟩⟩]) from by
          obtain ⟨s1, s2, ⟨s3, s4⟩, s5, s6⟩ := hsy.out
          exact ⟨s1.set (.inr (.inr rfl)), s2.far (by omega), ⟨(cell_set_ne (by omega)).trans s3, (cell_set_ne (by omega)).trans s4, at_set t2b, s5.set_⟩, s6.grown gb_set (.inr fun e => by have := (s6.lt e).1; omega)⟩)
         clear hsy t2b hfT
         go_roundw
         case rel => exact ⟨i + 1, F.met, _, _, by go_num, by omega, hFl, hfl, hS1, hres.out.1, hres.out.2.1, hres.out.2.2.1, hres.out.2.2.2⟩
         case measure => simp [intOf]; omega
       ·rw [hz] at hx0
        have hce2 := hid ((cels_met hz).symm.trans hce.out)
        rw [← hk2] at hce2
        have hst := hid (And.intro hB2 (And.intro hPM (And.intro (And.intro t0 (And.intro t1 (And.intro t2 zt))) hO)))
        clear hce hB2 hPM t0 t1 t2 zt hO hPl rH rV hk hk2 hres
        go_wp2
        go_roundw
        case rel => exact ⟨i + 1, met, Lc, _, by go_num, by omega, hml, by omega, hce2, hst.out.1, hst.out.2.1, hst.out.2.2.1, hst.out.2.2.2⟩
        case measure => simp [intOf]; omega
      ·obtain rfl : i = N := by omega
       have hii : ¬ (i : Int) < (i : Int) := by omega
       rw [Nat.sub_self, cels_zero] at hce
       obtain rfl := h5f.out Lc hce.out.symm
       obtain ⟨r0, zn, HB⟩ := hres
       have k0 : wr.cell? ⟨w.heap.size, 0, none⟩ = some (.int .i64 0) := r0 0 _ rfl
       have k1 : wr.cell? ⟨w.heap.size, 1, none⟩ = some (.int .i64 0) := r0 1 _ rfl
       have k2' : wr.cell? ⟨w.heap.size, 2, none⟩ = some (.slice none 0 0) := r0 2 _ rfl
       have fk := zn.fr
       have hwx : w.heap.size < x5.heap.size := by omega
       have hO3 := ((hO.grown (gb_set (w := wr) (g := w.heap.size) (i := 0) (v := .int .i64 (R : Int))) (.inr fun e => by have := (hO.lt e).1; omega)).grown (gb_set (g := w.heap.size) (i := 1) (v := .int .i64 (C : Int))) (.inr fun e => by have := (hO.lt e).1; omega)).grown (gb_set (g := w.heap.size) (i := 2) (v := .slice A5 Lc.length c5)) (.inr fun e => by have := (hO.lt e).1; omega)
       have hfin := hid (And.intro (hO3.rd2 CeKo).1 (below_set (below_set (below_set HB (Nat.le_refl _) 0 (.int .i64 (R : Int))) (Nat.le_refl _) 1 (.int .i64 (C : Int))) (Nat.le_refl _) 2 (.slice A5 Lc.length c5)))
       clear hG hce h4f h5f hB2 hPM hO hO3 hPl rH rV r0 zn HB
       go_wp2
       refine bodyPost_ret (v := .tuple #[.agg #[.int .i64 (R : Int), .int .i64 (C : Int), .slice A5 Lc.length c5], .int .i64 0]) ?_ rfl ?_
       ·simp [results, Try.results9, go_sem, k0, k1, k2']
       ·exact ⟨A5, c5, by dsimp only; rw [hR.out, hC.out], hfin.out⟩
end Go.Proofs.Ytjfgklhifhaaoaa
