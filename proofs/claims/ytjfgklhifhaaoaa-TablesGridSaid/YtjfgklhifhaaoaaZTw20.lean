/- Tables: the places of a table. Conditions: at most 512 bands and strips. -/
import Derived.Test.YtjfgklhifhaaoaaZTw19
import Derived.Test.YtjfgklhifhaaoaaZPC
set_option linter.unusedVariables false
set_option linter.unusedSimpArgs false
namespace Go.Proofs.Ytjfgklhifhaaoaa
open Go.RowKit
/-- places in memory -/
def plV (p : Pl) (gR gB gM : Nat) : Value := .agg #[.int .i64 p.rows, .int .i64 p.cols, .slice (some ⟨gR, 0, none⟩) (p.rows * p.cols) (p.rows * p.cols), .slice (some ⟨gB, 0, none⟩) (p.rows * p.cols) (p.rows * p.cols), .slice (some ⟨gM, 0, none⟩) (p.rows * p.cols) (p.rows * p.cols)]
def RetPl (w : World) (p : Pl) (e : Ending) (w' : World) : Prop := ∃ gR gB gM, e = .returned (plV p gR gB gM) ∧ PxA w' gR p.R ∧ PxA w' gB p.B ∧ PxA w' gM (List.replicate (p.rows * p.cols) false) ∧ (gR ≠ gB ∧ gR ≠ gM ∧ gB ≠ gM) ∧ (w.heap.size ≤ gR ∧ w.heap.size ≤ gB ∧ w.heap.size ≤ gM) ∧ Below w.heap.size w w'
/-- three rows of n false, anywhere behind B -/
def Tri (w w' : World) (n gR gB gM : Nat) : Prop := (PxA w' gR (List.replicate n false) ∧ PxA w' gB (List.replicate n false) ∧ PxA w' gM (List.replicate n false)) ∧ (gR ≠ gB ∧ gR ≠ gM ∧ gB ≠ gM) ∧ (w.heap.size ≤ gR ∧ w.heap.size ≤ gB ∧ w.heap.size ≤ gM)
theorem PxR.oz {w w' : World} {g k : Nat} {d : List Bool} (h : PxR w g d w') (hk : k ≠ g) (z : Zn w k) : Zn w' k :=
 ⟨Nat.lt_of_lt_of_le z.lt h.gb.size, fun i => by
  have := h.gb.block k z.lt (fun e => hk (by injection e))
  have hz := z.fr i
  unfold World.frozen? at *
  rw [this]; exact hz⟩
theorem PxA.far {w : World} {g k i : Nat} {d : List Bool} {v : Value} (h : PxA w g d) (hk : k ≠ g) : PxA (w.setCell ⟨k, i, none⟩ v) g d := ⟨fun j u hu => keep_set hk (h.r j u hu), h.z.set_⟩
theorem px_alloc (y : World) (N : Nat) : PxA (y.alloc (Obj.cells (Array.replicate N (bv false)) 4)) y.heap.size (List.replicate N false) := by
 have h := rng_alloc (w := y) (cs := (List.replicate N false).map bv) (t := 4)
 have z := Zn.new_ (w := y) (cs := ((List.replicate N false).map bv).toArray) (t := 4)
 have e : ((List.replicate N false).map bv).toArray = Array.replicate N (bv false) := by simp
 rw [e] at h z
 exact ⟨h, z⟩
theorem tri_alloc (y : World) (N a : Nat) (ha : a = y.heap.size ∨ a = y.heap.size + 1 ∨ a = y.heap.size + 1 + 1) : PxA (((y.alloc (Obj.cells (Array.replicate N (bv false)) 4)).alloc (Obj.cells (Array.replicate N (bv false)) 4)).alloc (Obj.cells (Array.replicate N (bv false)) 4)) a (List.replicate N false) := by
 have hb : ∀ z : World, Below z.heap.size z (z.alloc (Obj.cells (Array.replicate N (bv false)) 4)) := fun z => (Below.refl _ _).alloc (Nat.le_refl _) _
 rcases ha with rfl | rfl | rfl
 ·exact ((px_alloc y N).below (hb _)).below (hb _)
 ·have := (px_alloc (y.alloc (Obj.cells (Array.replicate N (bv false)) 4)) N).below (hb _)
  rwa [World.size_alloc] at this
 ·have := px_alloc ((y.alloc (Obj.cells (Array.replicate N (bv false)) 4)).alloc (Obj.cells (Array.replicate N (bv false)) 4)) N
  rwa [World.size_alloc, World.size_alloc] at this
def pl0 : List Value := [.int .i64 0, .int .i64 0, .slice none 0 0, .slice none 0 0, .slice none 0 0]
def plC (r c : Nat) (a b m : Value) : List Value := [.int .i64 r, .int .i64 c, a, b, m]
def PlAt (w w' : World) (g R C N gR gB gM : Nat) : Prop := w'.rangeAt g 0 (plC R C (.slice (some ⟨gR, 0, none⟩) N N) (.slice (some ⟨gB, 0, none⟩) N N) (.slice (some ⟨gM, 0, none⟩) N N)) ∧ Zn w' g ∧ Tri w w' N gR gB gM ∧ Below g w w'
theorem pl_made {x : World} {g R C N a b c : Nat} (hs : x.rangeAt g 0 (plC R C (.slice none 0 0) (.slice none 0 0) (.slice none 0 0))) (zx : Zn x g) (ha : a = x.heap.size ∨ a = x.heap.size + 1 ∨ a = x.heap.size + 1 + 1) (hb : b = x.heap.size ∨ b = x.heap.size + 1 ∨ b = x.heap.size + 1 + 1) (hc : c = x.heap.size ∨ c = x.heap.size + 1 ∨ c = x.heap.size + 1 + 1) (hd : a ≠ b ∧ a ≠ c ∧ b ≠ c) :
  ∃ gR gB gM, PlAt x ((((((x.setCell ⟨g, 2, none⟩ (.slice (some ⟨a, 0, none⟩) N N)).setCell ⟨g, 3, none⟩ (.slice (some ⟨b, 0, none⟩) N N)).setCell ⟨g, 4, none⟩ (.slice (some ⟨c, 0, none⟩) N N)).alloc (Obj.cells (Array.replicate N (bv false)) 4)).alloc (Obj.cells (Array.replicate N (bv false)) 4)).alloc (Obj.cells (Array.replicate N (bv false)) 4)).drew g R C N gR gB gM := by
 have hlt := zx.lt
 have d2 : x.cell? ⟨g, 2, none⟩ = some (.slice none 0 0) := hs 2 _ rfl
 have d3 : x.cell? ⟨g, 3, none⟩ = some (.slice none 0 0) := hs 3 _ rfl
 have d4 : x.cell? ⟨g, 4, none⟩ = some (.slice none 0 0) := hs 4 _ rfl
 have c3 : (x.setCell ⟨g, 2, none⟩ (.slice (some ⟨a, 0, none⟩) N N)).cell? ⟨g, 3, none⟩ = some (.slice none 0 0) := (cell_set_ne (by omega)).trans d3
 have c4 : ((x.setCell ⟨g, 2, none⟩ (.slice (some ⟨a, 0, none⟩) N N)).setCell ⟨g, 3, none⟩ (.slice (some ⟨b, 0, none⟩) N N)).cell? ⟨g, 4, none⟩ = some (.slice none 0 0) := (cell_set_ne (by omega)).trans ((cell_set_ne (by omega)).trans d4)
 have ey : ∃ y, y = ((x.setCell ⟨g, 2, none⟩ (.slice (some ⟨a, 0, none⟩) N N)).setCell ⟨g, 3, none⟩ (.slice (some ⟨b, 0, none⟩) N N)).setCell ⟨g, 4, none⟩ (.slice (some ⟨c, 0, none⟩) N N) := ⟨_, rfl⟩
 obtain ⟨y, hy⟩ := ey
 have hr : y.rangeAt g 0 (plC R C (.slice (some ⟨a, 0, none⟩) N N) (.slice (some ⟨b, 0, none⟩) N N) (.slice (some ⟨c, 0, none⟩) N N)) := fun i v hv => by
  rw [Nat.zero_add, hy]
  match i, hv with
  | 0, hv => obtain rfl := Option.some.inj hv; exact (cell_set_ne (by omega)).trans ((cell_set_ne (by omega)).trans ((cell_set_ne (by omega)).trans (hs 0 _ rfl)))
  | 1, hv => obtain rfl := Option.some.inj hv; exact (cell_set_ne (by omega)).trans ((cell_set_ne (by omega)).trans ((cell_set_ne (by omega)).trans (hs 1 _ rfl)))
  | 2, hv => obtain rfl := Option.some.inj hv; exact (cell_set_ne (by omega)).trans ((cell_set_ne (by omega)).trans (at_set d2))
  | 3, hv => obtain rfl := Option.some.inj hv; exact (cell_set_ne (by omega)).trans (at_set c3)
  | 4, hv => obtain rfl := Option.some.inj hv; exact at_set c4
 have hz : Zn y g := by rw [hy]; exact zx.set_.set_.set_
 have hsz : y.heap.size = x.heap.size := by rw [hy]; simp
 have hby : Below g x y := by rw [hy]; exact below_set (below_set (below_set (Below.refl _ _) (Nat.le_refl _) _ _) (Nat.le_refl _) _ _) (Nat.le_refl _) _ _
 rw [← hy]
 have hq : Below y.heap.size y (((y.alloc (Obj.cells (Array.replicate N (bv false)) 4)).alloc (Obj.cells (Array.replicate N (bv false)) 4)).alloc (Obj.cells (Array.replicate N (bv false)) 4)) := ((((Below.refl _ _).alloc (Nat.le_refl _) _).alloc (by simp) _).alloc (by simp; omega) _)
 have hqd := hq.drew
 have hdr : ∀ z : World, Below z.heap.size z z.drew := fun z => (Below.refl _ _).drew
 rw [← hsz] at ha hb hc hlt
 refine ⟨a, b, c, rng_below hr hqd, hz.below hqd, ⟨⟨(tri_alloc y N a ha).below (hdr _), (tri_alloc y N b hb).below (hdr _), (tri_alloc y N c hc).below (hdr _)⟩, hd, ?_⟩, hby.trans (hqd.mono (Nat.le_of_lt hlt))⟩
 omega
set_option maxRecDepth 100000 in
set_option maxHeartbeats 8000000 in
theorem Tplc_g (f : Fr) (v : Value) {w : World} (hf : FrRd w v f) (ho : FrOk f 512) : Calls Try.prog 30 #[v] w (RetPl w (plcE f)) := by
 obtain ⟨A1, c1, A2, c2, A3, c3, A4, c4, rfl, -, hA, hD⟩ := hf
 obtain ⟨h2, v2, hm, vm, ha, hd, al, dl⟩ := ho
 have hR := hid (plcE_R f)
 have hB := hid (plcE_B f)
 have hrows : (plcE f).rows = f.H.length - 1 := rfl
 have hcols : (plcE f).cols = f.V.length - 1 := rfl
 generalize plcE f = p at *
 obtain ⟨H, V, A, D⟩ := f
 dsimp only at *
 obtain ⟨nH, hnH⟩ : ∃ n, H.length = n := ⟨_, rfl⟩
 obtain ⟨nV, hnV⟩ : ∃ n, V.length = n := ⟨_, rfl⟩
 rw [hnH] at h2 hm hR hB hrows ha hd ⊢
 rw [hnV] at v2 vm hR hB hcols ha hd ⊢
 obtain ⟨R, hRd⟩ : ∃ r, nH - 1 = r := ⟨_, rfl⟩
 obtain ⟨C, hCd⟩ : ∃ c, nV - 1 = c := ⟨_, rfl⟩
 rw [hRd] at hR hB hrows
 rw [hCd] at hR hB hcols
 have hwR : IntKind.i64.wrap ((nH : Int) - 1) = (R : Int) := by rw [IntKind.wrap_i64]; omega
 have hwC : IntKind.i64.wrap ((nV : Int) - 1) = (C : Int) := by rw [IntKind.wrap_i64]; omega
 have hN4 : R * C ≤ 512 * 512 := Nat.mul_le_mul (by omega) (by omega)
 obtain ⟨N, hNd⟩ : ∃ n, R * C = n := ⟨_, rfl⟩
 have hwN : IntKind.i64.wrap ((R : Int) * (C : Int)) = (N : Int) := by rw [← Int.natCast_mul, hNd, IntKind.wrap_i64]; omega
 have hmk := fun (W : World) => makeB W N (by omega) (N : Int) rfl
 go_enter Try.func30, Try.ntmps30
 go_upto_region 1 with fail
 refine enterR2 (P := fun u => Code.wp _ _ _ _ u) (c0 := [.slice A1 nH c1, .slice A2 nV c2, .slice A3 A.length c3, .slice A4 D.length c4]) (c1 := pl0) ?_
 intro u HB r0 r1 zn0 zn1 hsz
 have b0 : u.cell? ⟨w.heap.size, 0, none⟩ = some (.slice A1 nH c1) := r0 0 _ rfl
 have b1 : u.cell? ⟨w.heap.size, 1, none⟩ = some (.slice A2 nV c2) := r0 1 _ rfl
 go_upto_region 2 with fail
 refine enterR (P := fun u => Code.wp _ _ _ _ u) (c := plC R C (.slice none 0 0) (.slice none 0 0) (.slice none 0 0)) ?_
 intro x hbx s0 zx hsx
 have d0 : x.cell? ⟨u.heap.size, 0, none⟩ = some (.int .i64 (R : Int)) := s0 0 _ rfl
 have d1 : x.cell? ⟨u.heap.size, 1, none⟩ = some (.int .i64 (C : Int)) := s0 1 _ rfl
 have d2 : x.cell? ⟨u.heap.size, 2, none⟩ = some (.slice none 0 0) := s0 2 _ rfl
 have d3 : x.cell? ⟨u.heap.size, 3, none⟩ = some (.slice none 0 0) := s0 3 _ rfl
 have d4 : x.cell? ⟨u.heap.size, 4, none⟩ = some (.slice none 0 0) := s0 4 _ rfl
 have ltx := cell_lt d0
 have fx := zx.fr
 go_upto_region 3 with fail
 go_cut [4] (fun s4 wx => s4 = .int .i64 (N : Int) ∧ ∃ gR gB gM, PlAt x wx u.heap.size R C N gR gB gM)
 case first =>
  have lt1 : u.heap.size < x.heap.size + 1 := by omega
  have lt2 : u.heap.size < x.heap.size + 1 + 1 := by omega
  have q3 := fun (v : Value) => (cell_set_ne (W := x) (g := u.heap.size) (i := 2) (j := 3) (v := v) (by omega)).trans d3
  have hkeep := hid (And.intro s0 zx)
  clear s0 zx hsx b0 b1 r0 r1 zn0 zn1 hsz
  go_region
  all_goals
   go_wp2_with fail
   go_meet
   go_light
   exact ⟨rfl, pl_made hkeep.out.1 hkeep.out.2 (by omega) (by omega) (by omega) (by omega)⟩
 case rest =>
  clear hmk hwN hwR hwC
  obtain ⟨rfl, gR, gB, gM, hr, hz, ⟨⟨pR, pB, pM⟩, ⟨n1, n2, n3⟩, g1, g2, g3⟩, hbq⟩ := hcut
  have hs1 := hsz.out
  have hs2 := hsx.out
  have hbw : Below u.heap.size u wc := hbx.trans hbq
  have hBw : Below w.heap.size w wc := bel_step HB hbw
  have r0w := rng_below r0 hbw
  have r1w := rng_below r1 hbw
  have zn1w := zn1.below hbw
  clear r0 r1 zn0 zn1 b0 b1 d0 d1 d2 d3 d4 ltx fx s0 zx hbx HB hbq hbw hsz hsx hnH hnV
  rw [hs1] at hr hz
  have e1 : w.heap.size + 1 + 1 < gR := by omega
  have e2 : w.heap.size + 1 + 1 < gB := by omega
  have e3 : w.heap.size + 1 + 1 < gM := by omega
  rw [hs1]
  clear hs1 hs2 g1 g2 g3
  obtain ⟨d0, hd0⟩ : ∃ d, List.replicate N false = d := ⟨_, rfl⟩
  have hd0l : d0.length = N := by rw [← hd0, List.length_replicate]
  rw [hNd, hd0] at hR hB
  rw [hd0] at pR pB pM
  have hMdone := hid hd0
  obtain ⟨MR, hMR⟩ : ∃ M : Nat → List Bool, M = fun i => (D.take i).foldl (mrkR C) d0 := ⟨_, rfl⟩
  obtain ⟨MB, hMB⟩ : ∃ M : Nat → List Bool, M = fun i => (A.take i).foldl (mrkB C) d0 := ⟨_, rfl⟩
  have hR0 : MR 0 = d0 := by rw [hMR]; rfl
  have hB0 : MB 0 = d0 := by rw [hMB]; rfl
  have hRl := hid fun i => (show (MR i).length = N from by rw [hMR, ← hd0l]; exact fold_len (mrkR_len C) _ _)
  have hBl := hid fun i => (show (MB i).length = N from by rw [hMB, ← hd0l]; exact fold_len (mrkB_len C) _ _)
  have hRs := hid fun i (h : i < D.length) => (show MR (i + 1) = mrkR C (MR i) D[i] from by rw [hMR]; exact fold_succ h)
  have hBs := hid fun i (h : i < A.length) => (show MB (i + 1) = mrkB C (MB i) A[i] from by rw [hMB]; exact fold_succ h)
  have hRe := hid (show MR D.length = p.R from by rw [hMR, hR.out]; exact fold_all)
  have hBe := hid (show MB A.length = p.B from by rw [hMB, hB.out]; exact fold_all)
  clear hMR hMB hR hB hd0
  have hdD := hid fun (i : Nat) (h : i < D.length) => hd _ (List.getElem_mem h)
  have hdA := hid fun (i : Nat) (h : i < A.length) => ha _ (List.getElem_mem h)
  have hMD := hid fun (j : Nat) (hj : j < D.length) (W : World) (hb : Below w.heap.size w W) => (hD.below hb).at_ (j := j) hj
  have hMA := hid fun (j : Nat) (hj : j < A.length) (W : World) (hb : Below w.heap.size w W) => (hA.below hb).at_ (j := j) hj
  have hC1 := hid fun (W : World) (d : List Bool) (h : PxR wc gR d W) => (show (W.cell? ⟨w.heap.size, 3, none⟩ = some (.slice A4 D.length c4) ∧ W.cell? ⟨w.heap.size + 1 + 1, 1, none⟩ = some (.int .i64 (C : Int))) ∧ W.cell? ⟨w.heap.size + 1 + 1, 2, none⟩ = some (.slice (some ⟨gR, 0, none⟩) N N) ∧ Below w.heap.size w W from
   ⟨⟨h.keep (by omega) (r0w 3 _ rfl), h.keep (by omega) (hr 1 _ rfl)⟩, h.keep (by omega) (hr 2 _ rfl), hBw.trans (h.below (by omega) hBw.size)⟩)
  have hFin := hid (And.intro r0w (And.intro (And.intro r1w zn1w) (And.intro (And.intro hr hz) (And.intro (And.intro pB pM) hBw))))
  clear ha hd hA hD r0w r1w zn1w hr hz hBw
  obtain ⟨mD, hmD⟩ : ∃ m, D.length = m := ⟨_, rfl⟩
  obtain ⟨mA, hmA⟩ : ∃ m, A.length = m := ⟨_, rfl⟩
  rw [hmD] at hC1 hRe dl hFin
  rw [hmA] at hBe al hFin
  replace hmD := hid hmD
  replace hmA := hid hmA
  have pR1 : PxR wc gR (MR 0) wc := PxR.refl (by rw [hR0]; exact pR)
  clear pR pB pM hR0
  obtain ⟨⟨c3w, -⟩, -, -⟩ := hC1.out wc _ pR1
  go_wp2
  clear c3w
  go_loopw [37] (fun s37 wr => ∃ i : Nat, s37 = .int .i64 i ∧ i ≤ mD ∧ PxR wc gR (MR i) wr) (fun s37 _ => mD - (intOf s37).toNat)
  case atStart => exact ⟨0, rfl, by omega, pR1⟩
  case round =>
   clear pR1
   obtain ⟨i, rfl, hi, hP⟩ := hrel
   obtain ⟨⟨c3w, c1w⟩, c2w, hB⟩ := hC1.out wr _ hP
   by_cases hin : i < mD
   ·have hii : (i : Int) < (mD : Int) := by omega
    have hil : i < D.length := by have := hmD.out; omega
    obtain ⟨b, o, hA3, hc⟩ := hMD.out i hil wr hB
    obtain ⟨q1, q2, q3⟩ := hdD.out i hil
    have f0 : wr.cell? ⟨b, o + i * 3, none⟩ = some (.int .i64 (D[i].n : Int)) := hc 0 _ rfl
    have f1 : wr.cell? ⟨b, o + i * 3 + 1, none⟩ = some (.int .i64 (D[i].f : Int)) := hc 1 _ rfl
    have f2 : wr.cell? ⟨b, o + i * 3 + 2, none⟩ = some (.int .i64 (D[i].o : Int)) := hc 2 _ rfl
    have hst := hid (hRs.out i hil)
    have hsl := hid (hRl.out i)
    subst hA3
    clear hc
    generalize hz : D[i] = z at *
    clear hz
    obtain ⟨z0, z1, z2⟩ := z
    dsimp only at f0 f1 f2 q1 q2 q3
    go_upto_region 7 with fail
    refine enterR (P := fun u => Code.wp _ _ _ _ u) (c := [.int .i64 (z0 : Int), .int .i64 (z1 : Int), .int .i64 (z2 : Int)]) ?_
    intro y hby s0 zy hsy
    have gy : wr.heap.size ≠ gR := by have := hP.a.z.lt; omega
    have gy1 : w.heap.size + 1 + 1 < wr.heap.size := by have := hP.a.z.lt; omega
    have hPy : PxR wr gR (MR i) y := ⟨gb_below hby, hP.a.below hby⟩
    have k0 : y.cell? ⟨wr.heap.size, 0, none⟩ = some (.int .i64 (z0 : Int)) := s0 0 _ rfl
    have k1 : y.cell? ⟨wr.heap.size, 1, none⟩ = some (.int .i64 (z1 : Int)) := s0 1 _ rfl
    have k2 : y.cell? ⟨wr.heap.size, 2, none⟩ = some (.int .i64 (z2 : Int)) := s0 2 _ rfl
    clear s0 zy hsy f0 f1 f2 hB
    by_cases hz0 : z0 = 0
    ·have hst2 := hid (hst.out.trans (mrkR_zero hz0))
     have hz0i : ((z0 : Int) == 0) = true := by simp [hz0]
     clear hst
     go_wp2
     go_roundw
     case rel => exact ⟨i + 1, by go_num, by omega, by rw [hst2.out]; exact hP.trans hPy⟩
     case measure => simp [intOf]; omega
    ·have hz0i : ((z0 : Int) == 0) = false := by rw [beq_eq_false_iff_ne]; omega
     obtain ⟨k, rfl⟩ : ∃ k, z0 = k + 1 := ⟨z0 - 1, by omega⟩
     have hst2 := hid (hst.out.trans (mrkR_eq hz0))
     clear hst
     obtain ⟨key, hkey⟩ : ∃ key : Nat → Nat, key = fun row => row * C + (k + 1) - 1 := ⟨_, rfl⟩
     have hst3 := hid (show MR (i + 1) = mrkS key (MR i) z1 z2 from by rw [hkey]; exact hst2.out)
     have hkk := hid fun row => (show key row = row * C + k from by rw [hkey]; show row * C + (k + 1) - 1 = _; omega)
     have hkl := hid fun row (h : row < z2) => (show key row < N ∧ row * C ≤ 512 * 512 from by
      rw [hkk.out, ← hNd, Nat.mul_comm R C, Nat.add_comm]
      have := px_place (W := C) (H := R) (x := k) (y := row) (by omega) (by omega)
      exact ⟨by omega, Nat.mul_le_mul (by omega) (by omega)⟩)
     have hC2 := hid fun (W : World) (d : List Bool) (h : PxR y gR d W) => (show ((W.cell? ⟨wr.heap.size, 0, none⟩ = some (.int .i64 ((k : Int) + 1)) ∧ W.cell? ⟨wr.heap.size, 2, none⟩ = some (.int .i64 (z2 : Int))) ∧ W.cell? ⟨w.heap.size + 1 + 1, 1, none⟩ = some (.int .i64 (C : Int)) ∧ W.cell? ⟨w.heap.size + 1 + 1, 2, none⟩ = some (.slice (some ⟨gR, 0, none⟩) N N)) from
      ⟨⟨h.keep gy k0, h.keep gy k2⟩, h.keep (by omega) (keep_cell hby c1w), h.keep (by omega) (keep_cell hby c2w)⟩)
     have hPy1 : PxR y gR (mrkS key (MR i) z1 z1) y := PxR.refl (by rw [mrkS_start]; exact hPy.a)
     have hPin := hid (hP.trans hPy)
     clear hst2 hP hPy hkey c3w c1w c2w hby k2 hz0
     go_wp2
     clear k0 k1
     obtain ⟨w0, hw0⟩ : ∃ w0, w0 = wr := ⟨_, rfl⟩
     subst hw0
     go_loopw [7] (fun s7 wr => ∃ row : Nat, s7 = .int .i64 row ∧ z1 ≤ row ∧ row ≤ z2 ∧ PxR y gR (mrkS key (MR i) z1 row) wr) (fun s7 _ => z2 - (intOf s7).toNat)
     case atStart => exact ⟨z1, rfl, Nat.le_refl _, by omega, hPy1⟩
     case round =>
      clear hPy1
      obtain ⟨row, rfl, hr1, hr2, hP⟩ := hrel
      obtain ⟨⟨k0, k2⟩, c1w, c2w⟩ := hC2.out wr _ hP
      by_cases hrz : row < z2
      ·have hri : (row : Int) < (z2 : Int) := by omega
       obtain ⟨hk1, hk2⟩ := hkl.out row hrz
       have hP2 := hid (hP.set (j := key row) (by rw [mrkS_len, hsl.out]; exact hk1) true)
       rw [← mrkS_succ hr1] at hP2
       obtain ⟨old, hxc⟩ : ∃ v, wr.cell? ⟨gR, key row, none⟩ = some v := ⟨_, hP.a.cell (j := key row) (by rw [mrkS_len, hsl.out]; exact hk1)⟩
       have hfz := hP.a.z.fr
       have hw1 : IntKind.i64.wrap ((row : Int) * (C : Int)) = ((row * C : Nat) : Int) := by rw [IntKind.wrap_i64, ← Int.natCast_mul]; omega
       have hke := hkk.out row
       have hw2 : IntKind.i64.wrap (((row * C : Nat) : Int) + ((k : Int) + 1)) = ((row * C + (k + 1) : Nat) : Int) := by rw [IntKind.wrap_i64]; omega
       have hw3 : IntKind.i64.wrap (((row * C + (k + 1) : Nat) : Int) - 1) = (key row : Int) := by rw [IntKind.wrap_i64]; omega
       clear hP hke hk2
       generalize key row = ix at *
       generalize row * C + (k + 1) = iz at *
       generalize row * C = iy at *
       have hii : (ix : Int) < (N : Int) := by omega
       go_wp2
       go_roundw
       case rel => exact ⟨row + 1, by go_num, by omega, by omega, hP2.out⟩
       case measure => simp [intOf]; omega
      ·obtain rfl : row = z2 := by omega
       have hri : ¬ (row : Int) < (row : Int) := by omega
       have hP2 := hid (hPin.out.trans hP)
       rw [← hst3.out] at hP2
       clear hP
       go_wp2
       go_roundw
       case rel => exact ⟨i + 1, by go_num, by omega, hP2.out⟩
       case measure => simp [intOf]; omega
   ·obtain rfl : i = mD := by omega
    have hii : ¬ (i : Int) < (i : Int) := by omega
    clear hMD hdD hRs hRl
    have hRe2 := hRe.out
    rw [hRe2] at hP
    clear hRe hRe2
    obtain ⟨r0, ⟨r1, zn1⟩, ⟨hr, hz⟩, ⟨pB, pM⟩, hBw⟩ := hFin.out
    clear hFin hC1 c3w c1w c2w hB
    have hr2 : wr.rangeAt (w.heap.size + 1 + 1) 0 _ := fun j v hv => hP.keep (by omega) (hr j v hv)
    have r02 : wr.rangeAt w.heap.size 0 _ := fun j v hv => hP.keep (by omega) (r0 j v hv)
    have r12 : wr.rangeAt (w.heap.size + 1) 0 _ := fun j v hv => hP.keep (by omega) (r1 j v hv)
    have pB2 : PxA wr gB d0 := ⟨fun j v hv => hP.keep (by omega) (pB.r j v hv), hP.oz (by omega) pB.z⟩
    have pM2 : PxA wr gM d0 := ⟨fun j v hv => hP.keep (by omega) (pM.r j v hv), hP.oz (by omega) pM.z⟩
    have zn2 : Zn wr (w.heap.size + 1) := hP.oz (by omega) zn1
    have hBw2 := hBw.trans (hP.below (by omega) hBw.size)
    have pR2 := hP.a
    clear hP hr r0 r1 pB pM zn1 hBw hz
    have hC1 := hid fun (W : World) (d : List Bool) (h : PxR wr gB d W) => (show (W.cell? ⟨w.heap.size, 2, none⟩ = some (.slice A3 mA c3) ∧ W.cell? ⟨w.heap.size + 1 + 1, 1, none⟩ = some (.int .i64 (C : Int))) ∧ W.cell? ⟨w.heap.size + 1 + 1, 3, none⟩ = some (.slice (some ⟨gB, 0, none⟩) N N) ∧ Below w.heap.size w W from
     ⟨⟨h.keep (by omega) (r02 2 _ rfl), h.keep (by omega) (hr2 1 _ rfl)⟩, h.keep (by omega) (hr2 3 _ rfl), hBw2.trans (h.below (by omega) hBw2.size)⟩)
    have hFin := hid (And.intro (And.intro r12 zn2) (And.intro hr2 (And.intro (And.intro pR2 pM2) hBw2)))
    have pB1 : PxR wr gB (MB 0) wr := PxR.refl (by rw [hB0]; exact pB2)
    clear r02 r12 hr2 pB2 pM2 zn2 hBw2 pR2 hB0
    obtain ⟨⟨c3w, -⟩, -, -⟩ := hC1.out wr _ pB1
    go_wp2
    clear c3w
    obtain ⟨w2, hw2⟩ : ∃ w2, w2 = wr := ⟨_, rfl⟩
    subst hw2
    go_loopw [67] (fun s67 wr => ∃ i : Nat, s67 = .int .i64 i ∧ i ≤ mA ∧ PxR w2 gB (MB i) wr) (fun s67 _ => mA - (intOf s67).toNat)
    case atStart => exact ⟨0, rfl, by omega, pB1⟩
    case round =>
     clear pB1
     obtain ⟨i, rfl, hi, hP⟩ := hrel
     obtain ⟨⟨c3w, c1w⟩, c2w, hB⟩ := hC1.out wr _ hP
     by_cases hin : i < mA
     ·have hii : (i : Int) < (mA : Int) := by omega
      have hil : i < A.length := by have := hmA.out; omega
      obtain ⟨b, o, hA3, hc⟩ := hMA.out i hil wr hB
      obtain ⟨q1, q2, q3⟩ := hdA.out i hil
      have f0 : wr.cell? ⟨b, o + i * 3, none⟩ = some (.int .i64 (A[i].n : Int)) := hc 0 _ rfl
      have f1 : wr.cell? ⟨b, o + i * 3 + 1, none⟩ = some (.int .i64 (A[i].f : Int)) := hc 1 _ rfl
      have f2 : wr.cell? ⟨b, o + i * 3 + 2, none⟩ = some (.int .i64 (A[i].o : Int)) := hc 2 _ rfl
      have hst := hid (hBs.out i hil)
      have hsl := hid (hBl.out i)
      subst hA3
      clear hc
      generalize hz : A[i] = z at *
      clear hz
      obtain ⟨z0, z1, z2⟩ := z
      dsimp only at f0 f1 f2 q1 q2 q3
      go_upto_region 16 with fail
      refine enterR (P := fun u => Code.wp _ _ _ _ u) (c := [.int .i64 (z0 : Int), .int .i64 (z1 : Int), .int .i64 (z2 : Int)]) ?_
      intro y hby s0 zy hsy
      have gy : wr.heap.size ≠ gB := by have := hP.a.z.lt; omega
      have gy1 : w.heap.size + 1 + 1 < wr.heap.size := by have := hP.a.z.lt; omega
      have hPy : PxR wr gB (MB i) y := ⟨gb_below hby, hP.a.below hby⟩
      have k0 : y.cell? ⟨wr.heap.size, 0, none⟩ = some (.int .i64 (z0 : Int)) := s0 0 _ rfl
      have k1 : y.cell? ⟨wr.heap.size, 1, none⟩ = some (.int .i64 (z1 : Int)) := s0 1 _ rfl
      have k2 : y.cell? ⟨wr.heap.size, 2, none⟩ = some (.int .i64 (z2 : Int)) := s0 2 _ rfl
      clear s0 zy hsy f0 f1 f2 hB
      by_cases hz0 : z0 = 0
      ·have hst2 := hid (hst.out.trans (mrkB_zero hz0))
       have hz0i : ((z0 : Int) == 0) = true := by simp [hz0]
       clear hst
       go_wp2
       go_roundw
       case rel => exact ⟨i + 1, by go_num, by omega, by rw [hst2.out]; exact hP.trans hPy⟩
       case measure => simp [intOf]; omega
      ·have hz0i : ((z0 : Int) == 0) = false := by rw [beq_eq_false_iff_ne]; omega
       obtain ⟨k, rfl⟩ : ∃ k, z0 = k + 1 := ⟨z0 - 1, by omega⟩
       have hst2 := hid (hst.out.trans (mrkB_eq hz0))
       clear hst
       obtain ⟨key, hkey⟩ : ∃ key : Nat → Nat, key = fun col => (k + 1 - 1) * C + col := ⟨_, rfl⟩
       have hst3 := hid (show MB (i + 1) = mrkS key (MB i) z1 z2 from by rw [hkey]; exact hst2.out)
       have hkk := hid fun col => (show key col = k * C + col from by rw [hkey]; rfl)
       have hkc : k * C ≤ 512 * 512 := Nat.mul_le_mul (by omega) (by omega)
       have hkl := hid fun col (h : col < z2) => (show key col < N from by
        rw [hkk.out, ← hNd, Nat.mul_comm R C]
        exact px_place (W := C) (H := R) (x := col) (y := k) (by omega) (by omega))
       have hC2 := hid fun (W : World) (d : List Bool) (h : PxR y gB d W) => (show ((W.cell? ⟨wr.heap.size, 0, none⟩ = some (.int .i64 ((k : Int) + 1)) ∧ W.cell? ⟨wr.heap.size, 2, none⟩ = some (.int .i64 (z2 : Int))) ∧ W.cell? ⟨w.heap.size + 1 + 1, 1, none⟩ = some (.int .i64 (C : Int)) ∧ W.cell? ⟨w.heap.size + 1 + 1, 3, none⟩ = some (.slice (some ⟨gB, 0, none⟩) N N)) from
        ⟨⟨h.keep gy k0, h.keep gy k2⟩, h.keep (by omega) (keep_cell hby c1w), h.keep (by omega) (keep_cell hby c2w)⟩)
       have hPy1 : PxR y gB (mrkS key (MB i) z1 z1) y := PxR.refl (by rw [mrkS_start]; exact hPy.a)
       have hPin := hid (hP.trans hPy)
       have hw0 : IntKind.i64.wrap (((k : Int) + 1) - 1) = (k : Int) := by rw [IntKind.wrap_i64]; omega
       have hw1 : IntKind.i64.wrap ((k : Int) * (C : Int)) = ((k * C : Nat) : Int) := by rw [IntKind.wrap_i64, ← Int.natCast_mul]; omega
       clear hst2 hP hPy hkey c3w c1w c2w hby k2 hz0
       go_wp2
       clear k0 k1
       obtain ⟨w0, hw0⟩ : ∃ w0, w0 = wr := ⟨_, rfl⟩
       subst hw0
       go_loopw [10] (fun s10 wr => ∃ col : Nat, s10 = .int .i64 col ∧ z1 ≤ col ∧ col ≤ z2 ∧ PxR y gB (mrkS key (MB i) z1 col) wr) (fun s10 _ => z2 - (intOf s10).toNat)
       case atStart => exact ⟨z1, rfl, Nat.le_refl _, by omega, hPy1⟩
       case round =>
        clear hPy1
        obtain ⟨col, rfl, hr1, hr2, hP⟩ := hrel
        obtain ⟨⟨k0, k2⟩, c1w, c2w⟩ := hC2.out wr _ hP
        by_cases hrz : col < z2
        ·have hri : (col : Int) < (z2 : Int) := by omega
         have hk1 := hkl.out col hrz
         have hP2 := hid (hP.set (j := key col) (by rw [mrkS_len, hsl.out]; exact hk1) true)
         rw [← mrkS_succ hr1] at hP2
         obtain ⟨old, hxc⟩ : ∃ v, wr.cell? ⟨gB, key col, none⟩ = some v := ⟨_, hP.a.cell (j := key col) (by rw [mrkS_len, hsl.out]; exact hk1)⟩
         have hfz := hP.a.z.fr
         have hke := hkk.out col
         have hw2 : IntKind.i64.wrap (((k * C : Nat) : Int) + (col : Int)) = (key col : Int) := by rw [IntKind.wrap_i64]; omega
         clear hP hke
         generalize key col = ix at *
         generalize k * C = iy at *
         have hii : (ix : Int) < (N : Int) := by omega
         go_wp2
         go_roundw
         case rel => exact ⟨col + 1, by go_num, by omega, by omega, hP2.out⟩
         case measure => simp [intOf]; omega
        ·obtain rfl : col = z2 := by omega
         have hri : ¬ (col : Int) < (col : Int) := by omega
         have hP2 := hid (hPin.out.trans hP)
         rw [← hst3.out] at hP2
         clear hP
         go_wp2
         go_roundw
         case rel => exact ⟨i + 1, by go_num, by omega, hP2.out⟩
         case measure => simp [intOf]; omega
     ·obtain rfl : i = mA := by omega
      have hii : ¬ (i : Int) < (i : Int) := by omega
      clear hMA hdA hBs hBl
      have hBe2 := hBe.out
      rw [hBe2] at hP
      clear hBe hBe2
      obtain ⟨⟨r1, zn1⟩, hr, ⟨pR, pM⟩, hBw⟩ := hFin.out
      clear hFin hC1 c3w c1w c2w hB
      have pR2 : PxA wr gR p.R := ⟨fun j v hv => hP.keep (by omega) (pR.r j v hv), hP.oz (by omega) pR.z⟩
      have pM2 : PxA wr gM d0 := ⟨fun j v hv => hP.keep (by omega) (pM.r j v hv), hP.oz (by omega) pM.z⟩
      have zn2 : Zn wr (w.heap.size + 1) := hP.oz (by omega) zn1
      have fz := zn2.fr
      have hBw2 := hBw.trans (hP.below (by omega) hBw.size)
      have k0 : wr.cell? ⟨w.heap.size + 1 + 1, 0, none⟩ = some (.int .i64 (R : Int)) := hP.keep (by omega) (hr 0 _ rfl)
      have k1 : wr.cell? ⟨w.heap.size + 1 + 1, 1, none⟩ = some (.int .i64 (C : Int)) := hP.keep (by omega) (hr 1 _ rfl)
      have k2 : wr.cell? ⟨w.heap.size + 1 + 1, 2, none⟩ = some (.slice (some ⟨gR, 0, none⟩) N N) := hP.keep (by omega) (hr 2 _ rfl)
      have k3 : wr.cell? ⟨w.heap.size + 1 + 1, 3, none⟩ = some (.slice (some ⟨gB, 0, none⟩) N N) := hP.keep (by omega) (hr 3 _ rfl)
      have k4 : wr.cell? ⟨w.heap.size + 1 + 1, 4, none⟩ = some (.slice (some ⟨gM, 0, none⟩) N N) := hP.keep (by omega) (hr 4 _ rfl)
      have m0 : wr.cell? ⟨w.heap.size + 1, 0, none⟩ = some (.int .i64 0) := hP.keep (by omega) (r1 0 _ rfl)
      have m1 : wr.cell? ⟨w.heap.size + 1, 1, none⟩ = some (.int .i64 0) := hP.keep (by omega) (r1 1 _ rfl)
      have m2 : wr.cell? ⟨w.heap.size + 1, 2, none⟩ = some (.slice none 0 0) := hP.keep (by omega) (r1 2 _ rfl)
      have m3 : wr.cell? ⟨w.heap.size + 1, 3, none⟩ = some (.slice none 0 0) := hP.keep (by omega) (r1 3 _ rfl)
      have m4 : wr.cell? ⟨w.heap.size + 1, 4, none⟩ = some (.slice none 0 0) := hP.keep (by omega) (r1 4 _ rfl)
      have hres := hid (show ∀ (W : World), W = ((((wr.setCell ⟨w.heap.size + 1, 0, none⟩ (.int .i64 (R : Int))).setCell ⟨w.heap.size + 1, 1, none⟩ (.int .i64 (C : Int))).setCell ⟨w.heap.size + 1, 2, none⟩ (.slice (some ⟨gR, 0, none⟩) N N)).setCell ⟨w.heap.size + 1, 3, none⟩ (.slice (some ⟨gB, 0, none⟩) N N)).setCell ⟨w.heap.size + 1, 4, none⟩ (.slice (some ⟨gM, 0, none⟩) N N) → RetPl w p (.returned (.agg #[.int .i64 R, .int .i64 C, .slice (some ⟨gR, 0, none⟩) N N, .slice (some ⟨gB, 0, none⟩) N N, .slice (some ⟨gM, 0, none⟩) N N])) W from fun W hW => by
       refine ⟨gR, gB, gM, by unfold plV; rw [hrows, hcols, hNd], ?_, ?_, ?_, ⟨n1, n2, n3⟩, ⟨by omega, by omega, by omega⟩, ?_⟩
       ·rw [hW]; exact pR2.far (by omega) |>.far (by omega) |>.far (by omega) |>.far (by omega) |>.far (by omega)
       ·rw [hW]; exact hP.a.far (by omega) |>.far (by omega) |>.far (by omega) |>.far (by omega) |>.far (by omega)
       ·rw [hW, hrows, hcols, hNd, hMdone.out]; exact pM2.far (by omega) |>.far (by omega) |>.far (by omega) |>.far (by omega) |>.far (by omega)
       ·rw [hW]; exact below_set (below_set (below_set (below_set (below_set hBw2 (by omega) _ _) (by omega) _ _) (by omega) _ _) (by omega) _ _) (by omega) _ _)
      clear hP hr r1 zn1 pR pM hBw pR2 pM2 zn2 hBw2
      go_wp2
      refine bodyPost_ret (v := .agg #[.int .i64 R, .int .i64 C, .slice (some ⟨gR, 0, none⟩) N N, .slice (some ⟨gB, 0, none⟩) N N, .slice (some ⟨gM, 0, none⟩) N N]) ?_ rfl ?_
      ·simp [results, Try.results30, go_sem, m0, m1, m2, m3, m4]
      ·exact hres.out _ rfl
end Go.Proofs.Ytjfgklhifhaaoaa
