/- Tables: Grid of the reference: the plain facts. Conditions: none. -/
import Derived.Test.YtjfgklhifhaaoaaGreatZTg6
import Derived.Test.YtjfgklhifhaaoaaGreatZTg7
import Derived.Test.YtjfgklhifhaaoaaGreatZTw24
import Derived.Test.YtjfgklhifhaaoaaGreatZTr9
set_option linter.unusedVariables false
set_option linter.unusedSimpArgs false
namespace Go.Proofs.YtjfgklhifhaaoaaGreat
open Go.RowKit
/-- marking a box, place by place -/
structure Pu (C X Y U V : Nat) (m E : List Bool) (Q : Nat → Nat → List Bool) : Prop where
 zero : Q Y 0 = m
 row : ∀ y x, U ≤ x → Q y x = Q (y + 1) 0
 st : ∀ y, Q y X = Q y 0
 fin : ∀ y, V ≤ y → Q y 0 = E
 set : ∀ y x, x < C → x < U → X ≤ x → Y ≤ y → y < V → (Q y x).set (y * C + x) true = Q y (x + 1)
 len : ∀ y x, (Q y x).length = m.length
 old : ∀ y x, x < C → y * C + x < m.length → at0 (Q y x) (y * C + x) = at0 m (y * C + x)
theorem pu_ok {C X Y U V : Nat} {m : List Bool} : ∃ Q, Pu C X Y U V m (pntL m C X Y U V true) Q :=
 ⟨pntP m C X Y U V true, pntP_zero .., fun y x h => pntP_row _ _ _ _ _ _ _ y x h, fun y => pntP_start .., fun y h => pntP_end _ _ _ _ _ _ _ y h, fun y x h0 h1 h2 h3 h4 => pntP_set _ _ _ _ _ _ _ y x h0 h2 h1 h3 h4, fun y x => pntP_len .., fun y x h0 h1 => by
  have hl : y * C + x < (pntP m C X Y U V true y x).length := by rw [pntP_len]; exact h1
  rw [at0_get hl, at0_get h1]
  have e1 : (y * C + x) % C = x := by rw [Nat.add_comm, Nat.add_mul_mod_self_right, Nat.mod_eq_of_lt h0]
  have e2 : (y * C + x) / C = y := by rw [Nat.add_comm, Nat.add_mul_div_right _ _ (by omega), Nat.div_eq_of_lt h0, Nat.zero_add]
  simp only [pntP, List.getElem_mapIdx]
  rw [if_neg]
  rw [e1, e2]; omega⟩
theorem anyU_t {m : List Bool} {C r re c ce y x : Nat} (h1 : r ≤ y) (h2 : y < re) (h3 : c ≤ x) (h4 : x < ce) (h : at0 m (y * C + x) = true) : anyU m C r re c ce = true := by
 unfold anyU
 rw [List.any_eq_true]
 refine ⟨y, List.mem_range'_1.2 ⟨h1, by omega⟩, ?_⟩
 rw [List.any_eq_true]
 exact ⟨x, List.mem_range'_1.2 ⟨h3, by omega⟩, h⟩
theorem anyU_f {m : List Bool} {C r re c ce : Nat} (h : ∀ y x, r ≤ y → y < re → c ≤ x → x < ce → at0 m (y * C + x) = false) : anyU m C r re c ce = false := by
 unfold anyU
 rw [List.any_eq_false]
 intro y hy
 rw [List.mem_range'_1] at hy
 rw [Bool.not_eq_true, List.any_eq_false]
 intro x hx
 rw [List.mem_range'_1] at hx
 rw [h y x hy.1 (by omega) hx.1 (by omega)]; simp
section
variable {f : Fr} {O S : Nat → Nat → Bool} {R C k i re ce : Nat} {m : List Bool} {l : List Ce}
theorem celsR_zero : celsR f O S R C 0 i m l = some l := rfl
theorem celsR_met (h : at0 m i = true) : celsR f O S R C (k + 1) i m l = celsR f O S R C k (i + 1) m l := by rw [celsR, if_pos h]
theorem celsR_none (h : at0 m i = false) (hq : celR O S R C (i / C) (i % C) = none) : celsR f O S R C (k + 1) i m l = none := by rw [celsR, if_neg (by rw [h]; simp), hq]
theorem celsR_used (h : at0 m i = false) (hq : celR O S R C (i / C) (i % C) = some (re, ce)) (hu : anyU m C (i / C) re (i % C) ce = true) : celsR f O S R C (k + 1) i m l = none := by
 rw [celsR, if_neg (by rw [h]; simp), hq]
 dsimp only
 rw [if_pos hu]
theorem celsR_put (h : at0 m i = false) (hq : celR O S R C (i / C) (i % C) = some (re, ce)) (hu : anyU m C (i / C) re (i % C) ce = false) : celsR f O S R C (k + 1) i m l = celsR f O S R C k (i + 1) (pntL m C (i % C) (i / C) ce re true) (l ++ [boxC f (ceR (i / C) (i % C) re ce)]) := by
 rw [celsR, if_neg (by rw [h]; simp), hq]
 dsimp only
 rw [if_neg (by rw [hu]; simp)]
theorem celR_le (hr : i < R) (hc : k < C) (h : celR O S R C i k = some (re, ce)) : (i < re ∧ re ≤ R) ∧ k < ce ∧ ce ≤ C := by
 unfold celR at h
 split at h
 ·obtain ⟨rfl, rfl⟩ : endO O R i k = re ∧ endC S C i k = ce := by simpa using h
  have g1 := endR_ge (fun x => !S x i) (C - (k + 1)) (k + 1)
  have g2 := endR_ge (fun x => !O x k) (R - (i + 1)) (i + 1)
  unfold endC endO
  omega
 ·cases h
end
theorem grdR_empty {l : List Ru} (h : l.length = 0) : grdR l = (noT, 5) := by unfold grdR; rw [if_pos h]
theorem grdR_long {l : List Ru} (h : ¬ l.length = 0) (h1 : 512 < l.length) : grdR l = (noT, 4) := by unfold grdR; rw [if_neg h, if_pos h1]
theorem grdR_bad {l : List Ru} (h : ¬ l.length = 0) (h1 : ¬ 512 < l.length) (h2 : l.all okR = false) : grdR l = (noT, 3) := by unfold grdR; rw [if_neg h, if_neg h1, if_neg (by rw [h2]; simp)]
theorem grdR_form {l : List Ru} (h : ¬ l.length = 0) (h1 : ¬ 512 < l.length) (h2 : l.all okR = true) (h3 : frmR l = none) : grdR l = (noT, 9) := by unfold grdR; rw [if_neg h, if_neg h1, if_pos h2, h3]
/-- the cells of a frame -/
def grdG (l : List Ru) (s : Fs) : Option (List Ce) := celsR ⟨bndR l false, bndR l true, [], []⟩ (mt2 s.O) (mt2 s.S) ((bndR l false).length - 1) ((bndR l true).length - 1) (((bndR l false).length - 1) * ((bndR l true).length - 1)) 0 (List.replicate (((bndR l false).length - 1) * ((bndR l true).length - 1)) false) []
theorem grdR_none {l : List Ru} {s : Fs} (h : ¬ l.length = 0) (h1 : ¬ 512 < l.length) (h2 : l.all okR = true) (h3 : frmR l = some s) (h4 : grdG l s = none) : grdR l = (noT, 9) := by
 unfold grdR; rw [if_neg h, if_neg h1, if_pos h2, h3]
 unfold grdG at h4
 dsimp only
 rw [h4]
theorem grdR_ok {l : List Ru} {s : Fs} {L : List Ce} (h : ¬ l.length = 0) (h1 : ¬ 512 < l.length) (h2 : l.all okR = true) (h3 : frmR l = some s) (h4 : grdG l s = some L) : grdR l = (⟨(((bndR l false).length - 1 : Nat) : Int), (((bndR l true).length - 1 : Nat) : Int), L⟩, 0) := by
 unfold grdR; rw [if_neg h, if_neg h1, if_pos h2, h3]
 unfold grdG at h4
 dsimp only
 rw [h4]
/-- what a frame that was made tells -/
structure GrF (H V : List (Int × Int)) (s : Fs) : Prop where
 h2 : 2 ≤ H.length
 v2 : 2 ≤ V.length
 hb : ∀ x ∈ H, (0 ≤ x.1 ∧ x.1 ≤ 4096) ∧ 1 ≤ x.2 ∧ x.2 ≤ 4096
 vb : ∀ x ∈ V, (0 ≤ x.1 ∧ x.1 ≤ 4096) ∧ 1 ≤ x.2 ∧ x.2 ≤ 4096
 ol : s.O.length = H.length
 orr : ∀ k, k < H.length → (s.O.getD k []).length = V.length - 1
 sl : s.S.length = V.length
 sr : ∀ k, k < V.length → (s.S.getD k []).length = H.length - 1
 sN : ∀ y, y < H.length - 1 → mt2 s.S (V.length - 1) y = true
 oN : ∀ x, x < V.length - 1 → mt2 s.O (H.length - 1) x = true
theorem grF {l : List Ru} {s : Fs} (hok : ∀ r ∈ l, okR r = true) (h : frmR l = some s) : GrF (bndR l false) (bndR l true) s := by
 have h1 : ∀ r ∈ l, 1 ≤ r.t := fun r hr => by have := okR_iff.1 (hok r hr); omega
 have hA : aptE (bndR l false) = true ∧ aptE (bndR l true) = true := by
  cases e1 : aptE (bndR l false)
  ·rw [frm_no (.inl e1)] at h; cases h
  ·cases e2 : aptE (bndR l true)
   ·rw [frm_no (.inr e2)] at h; cases h
   ·exact ⟨rfl, rfl⟩
 have hF := frf hok hA.1 hA.2
 have hk : frmK (bndR l false) (bndR l true) l l.length = some s := by
  cases e : frmK (bndR l false) (bndR l true) l l.length with
  | none => rw [hF.no _ (Nat.le_refl _) e] at h; cases h
  | some s' =>
   have := hF.fin s' e
   rw [this] at h
   split at h
   ·exact h
   ·cases h
 obtain ⟨⟨a1, a2⟩, ⟨a3, a4⟩, -⟩ := hF.ok _ (Nat.le_refl _) s hk
 rcases frm_bld h1 with ⟨-, hn⟩ | ⟨f, s', -, hs, ⟨eH, eV⟩, hsep⟩
 ·rw [hn] at h; cases h
 ·rw [hs] at h
  injection h with h
  subst h
  have er : (plcE f).rows = (bndR l false).length - 1 := by rw [← eH]; rfl
  have ec : (plcE f).cols = (bndR l true).length - 1 := by rw [← eV]; rfl
  refine ⟨hF.h2, hF.v2, hF.hb, hF.vb, a1, a2, a3, a4, ?_, ?_⟩
  ·have := hsep.sN; rw [er, ec] at this; exact this
  ·have := hsep.oN; rw [er, ec] at this; exact this
theorem RdW.n {w : World} {K n c : Nat} {A : Option Addr} {M : List (List Bool)} (h : RdW w K A n c M) : n = M.length := by
 obtain ⟨gs, h1, _, h3⟩ := h
 rw [h1]; exact h3.len
end Go.Proofs.YtjfgklhifhaaoaaGreat
/- Tables: Grid of the reference. Conditions: none. -/
namespace Go.Proofs.YtjfgklhifhaaoaaGreat
open Go.RowKit
/-- a box of eight cells that is stored into -/
theorem rng_eight {w : World} {g : Nat} {a0 a1 a2 a3 a4 a5 a6 a7 b0 b1 b2 b3 b4 b5 b6 b7 : Value} (h : w.rangeAt g 0 [a0, a1, a2, a3, a4, a5, a6, a7]) (z : Zn w g) :
  ((((((((w.setCell ⟨g, 0, none⟩ b0).setCell ⟨g, 1, none⟩ b1).setCell ⟨g, 2, none⟩ b2).setCell ⟨g, 3, none⟩ b3).setCell ⟨g, 4, none⟩ b4).setCell ⟨g, 5, none⟩ b5).setCell ⟨g, 6, none⟩ b6).setCell ⟨g, 7, none⟩ b7).rangeAt g 0 [b0, b1, b2, b3, b4, b5, b6, b7] ∧ Zn ((((((((w.setCell ⟨g, 0, none⟩ b0).setCell ⟨g, 1, none⟩ b1).setCell ⟨g, 2, none⟩ b2).setCell ⟨g, 3, none⟩ b3).setCell ⟨g, 4, none⟩ b4).setCell ⟨g, 5, none⟩ b5).setCell ⟨g, 6, none⟩ b6).setCell ⟨g, 7, none⟩ b7) g :=
 ⟨rng_same (vs := [b0, b1, b2, b3, b4, b5, b6, b7]) h z rfl, z.set_.set_.set_.set_.set_.set_.set_.set_⟩
set_option maxRecDepth 100000 in
set_option maxHeartbeats 8000000 in
theorem RGrd_g (l : List Ru) (A : Option Addr) (c : Nat) {w : World} (hl : RuK.Rd w A c l) : Calls Tryz.prog 15 #[.slice A l.length c] w (RetGr w (grdR l)) := by
 have h0 := hid (grdR_empty (l := l))
 have h1 := hid (grdR_long (l := l))
 have h2 := hid (grdR_bad (l := l))
 have h3 := hid (grdR_form (l := l))
 have h4 := hid fun s => grdR_none (l := l) (s := s)
 have h5 := hid fun s L => grdR_ok (l := l) (s := s) (L := L)
 have hG := hid fun s => (show grdG l s = celsR ⟨bndR l false, bndR l true, [], []⟩ (mt2 s.O) (mt2 s.S) ((bndR l false).length - 1) ((bndR l true).length - 1) (((bndR l false).length - 1) * ((bndR l true).length - 1)) 0 (List.replicate (((bndR l false).length - 1) * ((bndR l true).length - 1)) false) [] from rfl)
 have hF := hid fun s (h : l.all okR = true) => grF (l := l) (s := s) (fun r hr => List.all_eq_true.1 h r hr)
 have HV := hid fun (W : World) (hb : Below w.heap.size w W) => RVal_g l A c (hl.below hb)
 have HM := hid fun (W : World) (hb : Below w.heap.size w W) (h5 : l.length ≤ 512) (hok : l.all okR = true) => RFrm_g l A c (hl.below hb) h5 (fun r hr => List.all_eq_true.1 hok r hr)
 have hLn := hid fun (h : l.length ≤ 512) => (show (bndR l false).length ≤ l.length ∧ (bndR l true).length ≤ l.length from ⟨bndR_len l false (by omega), bndR_len l true (by omega)⟩)
 obtain ⟨Q, hQ⟩ : ∃ q, grdR l = q := ⟨_, rfl⟩
 obtain ⟨t, ht⟩ : ∃ t, l.all okR = t := ⟨_, rfl⟩
 rw [hQ] at h0 h1 h2 h3 h4 h5 ⊢
 rw [ht] at h2 h3 h4 h5 HM HV hF
 generalize grdG l = G at *
 generalize frmR l = O at *
 generalize bndR l false = Hb at *
 generalize bndR l true = Vb at *
 obtain ⟨n, hn⟩ : ∃ n, l.length = n := ⟨_, rfl⟩
 rw [hn] at h0 h1 h2 h3 h4 h5 HM HV hLn ⊢
 clear hl hQ ht hn
 go_enter Tryz.func15, Tryz.ntmps15
 go_upto_region 1 with fail
 refine enterR (P := fun u => Code.wp _ _ _ _ u) (c := [.int .i64 0, .int .i64 0, .slice none 0 0]) ?_
 intro u HB r0 zn hsz
 clear hsz
 by_cases hn0 : n = 0
 ·obtain rfl := h0.out hn0
  subst hn0
  clear h0 h1 h2 h3 h4 h5 HV HM hF hG hLn
  have k0 : (u).cell? ⟨w.heap.size, 0, none⟩ = some (.int .i64 0) := r0 0 _ rfl
  have k1 : (u).cell? ⟨w.heap.size, 1, none⟩ = some (.int .i64 0) := r0 1 _ rfl
  have k2 : (u).cell? ⟨w.heap.size, 2, none⟩ = some (.slice none 0 0) := r0 2 _ rfl
  have ltk := cell_lt k0
  have fk := zn.fr
  have HBf := hid (below_set (below_set (below_set HB (Nat.le_refl _) 0 (.int .i64 0)) (Nat.le_refl _) 1 (.int .i64 0)) (Nat.le_refl _) 2 (.slice none 0 0))
  clear r0 zn HB
  go_wp2
  refine bodyPost_ret (v := .tuple #[.agg #[.int .i64 0, .int .i64 0, .slice none 0 0], .int .i64 (5)]) ?_ rfl ?_
  ·simp [results, Tryz.results15, go_sem, k0, k1, k2]
  ·exact ⟨none, 0, rfl, Knd.Rd.nil _, HBf.out⟩
 ·have hni : ((n : Int) == 0) = false := by rw [beq_eq_false_iff_ne]; omega
  by_cases hn5 : 512 < n
  ·have hn5i : (512 : Int) < (n : Int) := by omega
   obtain rfl := h1.out hn0 hn5
   clear h0 h1 h2 h3 h4 h5 HV HM hF hG hLn
   have k0 : (u).cell? ⟨w.heap.size, 0, none⟩ = some (.int .i64 0) := r0 0 _ rfl
   have k1 : (u).cell? ⟨w.heap.size, 1, none⟩ = some (.int .i64 0) := r0 1 _ rfl
   have k2 : (u).cell? ⟨w.heap.size, 2, none⟩ = some (.slice none 0 0) := r0 2 _ rfl
   have ltk := cell_lt k0
   have fk := zn.fr
   have HBf := hid (below_set (below_set (below_set HB (Nat.le_refl _) 0 (.int .i64 0)) (Nat.le_refl _) 1 (.int .i64 0)) (Nat.le_refl _) 2 (.slice none 0 0))
   clear r0 zn HB
   go_wp2
   refine bodyPost_ret (v := .tuple #[.agg #[.int .i64 0, .int .i64 0, .slice none 0 0], .int .i64 (4)]) ?_ rfl ?_
   ·simp [results, Tryz.results15, go_sem, k0, k1, k2]
   ·exact ⟨none, 0, rfl, Knd.Rd.nil _, HBf.out⟩
  ·have hn5i : ¬ (512 : Int) < (n : Int) := by omega
   replace HV := hid (HV.out u HB)
   clear h0 h1
   go_wp2_with fail
   refine HV.out.mono ?_
   rintro e u1 ⟨rfl, hv⟩
   replace HB := bel_step HB hv
   replace r0 := rng_below r0 hv
   replace zn := zn.below hv
   clear HV hv
   cases t
   ·obtain rfl := h2.out hn0 hn5 (by first | rfl | trivial)
    clear h2 h3 h4 h5 HM hF hG hLn
    have k0 : (u1).cell? ⟨w.heap.size, 0, none⟩ = some (.int .i64 0) := r0 0 _ rfl
    have k1 : (u1).cell? ⟨w.heap.size, 1, none⟩ = some (.int .i64 0) := r0 1 _ rfl
    have k2 : (u1).cell? ⟨w.heap.size, 2, none⟩ = some (.slice none 0 0) := r0 2 _ rfl
    have ltk := cell_lt k0
    have fk := zn.fr
    have HBf := hid (below_set (below_set (below_set HB (Nat.le_refl _) 0 (.int .i64 0)) (Nat.le_refl _) 1 (.int .i64 0)) (Nat.le_refl _) 2 (.slice none 0 0))
    clear r0 zn HB
    go_wp2
    refine bodyPost_ret (v := .tuple #[.agg #[.int .i64 0, .int .i64 0, .slice none 0 0], .int .i64 (3)]) ?_ rfl ?_
    ·simp [results, Tryz.results15, go_sem, k0, k1, k2]
    ·exact ⟨none, 0, rfl, Knd.Rd.nil _, HBf.out⟩
   ·replace HM := hid (HM.out u1 HB (by omega) (by first | rfl | trivial))
    replace h3 := hid (h3.out hn0 hn5 (by first | rfl | trivial))
    replace h4 := hid fun s => (h4.out s hn0 hn5 (by first | rfl | trivial))
    replace h5 := hid fun s L => (h5.out s L hn0 hn5 (by first | rfl | trivial))
    replace hF := hid fun s => (hF.out s (by first | rfl | trivial))
    obtain ⟨hLH, hLV⟩ := hLn.out (by omega)
    clear h2 hLn
    go_wp2_with fail
    refine HM.out.mono ?_
    rintro e u2 ⟨A1, n1, c1, A2, n2, c2, A3, n3, c3, A4, n4, c4, rfl, hfr, hv⟩
    replace HB := bel_step HB hv
    replace r0 := rng_below r0 hv
    replace zn := zn.below hv
    clear HM hv
    go_upto_region 8 with fail
    refine enterR (P := fun u => Code.wp _ _ _ _ u) (c := [.slice A1 n1 c1, .slice A2 n2 c2, .slice A3 n3 c3, .slice A4 n4 c4]) ?_
    intro x2 hbx rf zf hsf
    have hzn0 := zn.lt
    replace HB := bel_step HB hbx
    replace r0 := rng_below r0 hbx
    replace zn := zn.below hbx
    cases O with
    | none =>
     obtain rfl := h3.out (by first | rfl | trivial)
     clear h3 h4 h5 hF hG hfr hbx rf zf hsf
     have k0 : (x2).cell? ⟨w.heap.size, 0, none⟩ = some (.int .i64 0) := r0 0 _ rfl
     have k1 : (x2).cell? ⟨w.heap.size, 1, none⟩ = some (.int .i64 0) := r0 1 _ rfl
     have k2 : (x2).cell? ⟨w.heap.size, 2, none⟩ = some (.slice none 0 0) := r0 2 _ rfl
     have ltk := cell_lt k0
     have fk := zn.fr
     have HBf := hid (below_set (below_set (below_set HB (Nat.le_refl _) 0 (.int .i64 0)) (Nat.le_refl _) 1 (.int .i64 0)) (Nat.le_refl _) 2 (.slice none 0 0))
     clear r0 zn HB
     go_wp2
     refine bodyPost_ret (v := .tuple #[.agg #[.int .i64 0, .int .i64 0, .slice none 0 0], .int .i64 (9)]) ?_ rfl ?_
     ·simp [results, Tryz.results15, go_sem, k0, k1, k2]
     ·exact ⟨none, 0, rfl, Knd.Rd.nil _, HBf.out⟩
    | some s =>
     obtain ⟨⟨rfl, rfl⟩, ⟨rH, rV⟩, rO, rS⟩ := hfr s rfl
     have hf := hF.out s (by first | rfl | trivial)
     have h4f := hid (h4.out s (by first | rfl | trivial))
     have h5f := hid fun L => (h5.out s L (by first | rfl | trivial))
     have hGs := hid (hG.out s)
     clear h3 h4 h5 hF hG hfr
     obtain ⟨g2, v2, hb1, vb1, ol, orr, sl, sr, sN, oN⟩ := hf
     obtain rfl := rO.n
     obtain rfl := rS.n
     obtain ⟨R, hR⟩ : ∃ x, Hb.length - 1 = x := ⟨_, rfl⟩
     obtain ⟨C, hC⟩ : ∃ x, Vb.length - 1 = x := ⟨_, rfl⟩
     rw [hR, hC] at hGs h5f
     rw [hC] at rO orr sN oN
     rw [hR] at rS sr sN oN
     have hR1 : 1 ≤ R := by omega
     have hC1 : 1 ≤ C := by omega
     have eH : Hb.length = R + 1 := by omega
     have eV : Vb.length = C + 1 := by omega
     have eO : s.O.length = R + 1 := by omega
     have eS : s.S.length = C + 1 := by omega
     have hR5 : R ≤ 512 := by omega
     have hC5 : C ≤ 512 := by omega
     have hCel := hid fun (r k : Nat) (hr : r < R) (hk : k < C) (W : World) (hb : Below x2.heap.size x2 W) => (show Calls Tryz.prog 42 #[.agg #[.slice A1 (R + 1) c1, .slice A2 (C + 1) c2, .slice A3 (R + 1) c3, .slice A4 (C + 1) c4], .int .i64 r, .int .i64 k] W (RetCe W ⟨Hb, Vb, [], []⟩ r k (celR (mt2 s.O) (mt2 s.S) R C r k)) from by
      rw [eO] at rO
      rw [eS] at rS
      exact RCel_g Hb Vb s.O s.S A1 A2 A3 A4 c1 c2 c3 c4 r k R C ((rH.below hbx).below hb) ((rV.below hbx).below hb) ((rO.below hbx).below hb) ((rS.below hbx).below hb) eH eV eO eS (by rw [← eH]; exact orr) (by rw [← eV]; exact sr) sN oN hb1 vb1 hr hk (by omega) (by omega))
     rw [eH, eV, eO, eS] at rf ⊢
     generalize mt2 s.O = oP at *
     generalize mt2 s.S = sP at *
     clear rH rV rO rS g2 v2 hb1 vb1 ol orr sl sr sN oN
     generalize (⟨Hb, Vb, [], []⟩ : Fr) = f at *
     generalize G s = Gs at *
     obtain ⟨nH, hnH⟩ : ∃ x, R + 1 = x := ⟨_, rfl⟩
     obtain ⟨nV, hnV⟩ : ∃ x, C + 1 = x := ⟨_, rfl⟩
     rw [hnH, hnV] at rf hCel ⊢
     simp only [Option.isSome_some]
     have hx2s := zf.lt
     obtain ⟨gf, hgf⟩ : ∃ x, u2.heap.size = x := ⟨_, rfl⟩
     rw [hgf] at rf zf hx2s ⊢
     have f0 : x2.cell? ⟨gf, 0, none⟩ = some (.slice A1 nH c1) := rf 0 _ rfl
     have f1 : x2.cell? ⟨gf, 1, none⟩ = some (.slice A2 nV c2) := rf 1 _ rfl
     have hw1 : IntKind.i64.wrap ((nH : Int) - 1) = (R : Int) := by rw [IntKind.wrap_i64]; omega
     have hw2 : IntKind.i64.wrap ((nV : Int) - 1) = (C : Int) := by rw [IntKind.wrap_i64]; omega
     go_upto_region 11 with fail
     refine enterR (P := fun u => Code.wp _ _ _ _ u) (c := [.int .i64 R, .int .i64 C, .slice none 0 0]) ?_
     intro x3 hb3 rt zt hst
     clear hw1 hw2 f0 f1
     obtain ⟨gT, hgT⟩ : ∃ x, x2.heap.size = x := ⟨_, rfl⟩
     rw [hgT] at rt zt ⊢
     have hN4 : R * C ≤ 512 * 512 := Nat.mul_le_mul hR5 hC5
     obtain ⟨N, hN⟩ : ∃ x, R * C = x := ⟨_, rfl⟩
     have hwN : IntKind.i64.wrap ((R : Int) * (C : Int)) = (N : Int) := by
      rw [← Int.natCast_mul, hN, IntKind.wrap_i64]; omega
     have t0 : x3.cell? ⟨gT, 0, none⟩ = some (.int .i64 (R : Int)) := rt 0 _ rfl
     have t1 : x3.cell? ⟨gT, 1, none⟩ = some (.int .i64 (C : Int)) := rt 1 _ rfl
     rw [hN] at hGs hN4
     have hmk := fun (W : World) => makeB W N (by omega) (N : Int) rfl
     go_wp2
     clear hmk hwN t0 t1
     have hbA : Below x3.heap.size x3 (x3.alloc (.cells ((List.replicate N false).map bv).toArray 4)) := (Below.refl _ _).alloc (Nat.le_refl _) _
     have hpA : PxA (x3.alloc (.cells ((List.replicate N false).map bv).toArray 4)) x3.heap.size (List.replicate N false) := ⟨rng_alloc, Zn.new_⟩
     (try rw [show Array.replicate N (bv false) = ((List.replicate N false).map bv).toArray from by simp])
     obtain ⟨x5, hx5⟩ : ∃ x, x3.alloc (.cells ((List.replicate N false).map bv).toArray 4) = x := ⟨_, rfl⟩
     rw [hx5] at hbA hpA
     (try rw [hx5])
     obtain ⟨gM, hgM⟩ : ∃ x, x3.heap.size = x := ⟨_, rfl⟩
     have hltT := zt.lt
     rw [hgM] at hpA hltT
     (try rw [hgM])
     have hpl := hpA.z.lt
     have h25 : Below x2.heap.size x2 x5 := bel_step hb3 hbA
     have hTM : gT < gM := hltT
     have hfT : gf < gT := by omega
     have hwT : w.heap.size < gT := by omega
     have rt5 := rng_below rt hbA
     have zt5 := zt.below hbA
     have hKp := hid fun (W : World) (h : But2 x5 W gM gT) => (show ((W.cell? ⟨gf, 0, none⟩ = some (.slice A1 nH c1) ∧ W.cell? ⟨gf, 1, none⟩ = some (.slice A2 nV c2)) ∧ W.cell? ⟨gf, 2, none⟩ = some (.slice A3 nH c3) ∧ W.cell? ⟨gf, 3, none⟩ = some (.slice A4 nV c4)) ∧ Below x2.heap.size x2 W ∧ (W.rangeAt w.heap.size 0 [.int .i64 0, .int .i64 0, .slice none 0 0] ∧ Zn W w.heap.size ∧ Below w.heap.size w W) from by
      have ho : Below x2.heap.size x2 W := h25.trans (h.old (by omega) (by omega) h25.size)
      exact ⟨⟨⟨keep_cell ho (rf 0 _ rfl), keep_cell ho (rf 1 _ rfl)⟩, keep_cell ho (rf 2 _ rfl), keep_cell ho (rf 3 _ rfl)⟩, ho, rng_below r0 ho, zn.below ho, bel_step HB ho⟩)
     have hS0 := hid (show But2 x5 x5 gM gT ∧ PxA x5 gM (List.replicate N false) ∧ (x5.cell? ⟨gT, 0, none⟩ = some (.int .i64 (R : Int)) ∧ x5.cell? ⟨gT, 1, none⟩ = some (.int .i64 (C : Int)) ∧ x5.cell? ⟨gT, 2, none⟩ = some (.slice none 0 0) ∧ Zn x5 gT) ∧ CeK.Own x5 x5.heap.size (.slice none 0 0) [] from ⟨But2.refl _ _ _, hpA, ⟨rt5 0 _ rfl, rt5 1 _ rfl, rt5 2 _ rfl, zt5⟩, Knd.Own.nil _ _⟩)
     have hT5 : gT < x5.heap.size := zt5.lt
     have hw5 : w.heap.size < x5.heap.size := by omega
     clear r0 zn HB rf zf hb3 hbA rt zt rt5 zt5 h25 hpA hltT hsf hst hx5 hgM hgT hbx
     have hcel0 := hid (show celsR f oP sP R C (N - 0) 0 (List.replicate N false) [] = Gs from hGs.out.symm)
     have hml0 : (List.replicate N false).length = N := List.length_replicate
     generalize List.replicate N false = met0 at *
     clear hGs
     go_loopw [8] (fun s8 wr => ∃ (i : Nat) (met : List Bool) (Lc : List Ce) (vC : Value), s8 = .int .i64 (i : Int) ∧ i ≤ N ∧ met.length = N ∧ Lc.length ≤ i ∧ Hid (celsR f oP sP R C (N - i) i met Lc = Gs) ∧ But2 x5 wr gM gT ∧ PxA wr gM met ∧ (wr.cell? ⟨gT, 0, none⟩ = some (.int .i64 (R : Int)) ∧ wr.cell? ⟨gT, 1, none⟩ = some (.int .i64 (C : Int)) ∧ wr.cell? ⟨gT, 2, none⟩ = some vC ∧ Zn wr gT) ∧ CeK.Own wr x5.heap.size vC Lc) (fun s8 _ => N - (intOf s8).toNat)
     case atStart => exact ⟨0, met0, [], .slice none 0 0, rfl, by omega, hml0, Nat.le_refl _, hcel0, hS0.out.1, hS0.out.2.1, hS0.out.2.2.1, hS0.out.2.2.2⟩
     case round =>
      clear hS0 hml0 hcel0
      obtain ⟨i, met, Lc, vC, rfl, hi, hml, hll, hce, hB2, hPM, ⟨t0, t1, t2, zt⟩, hO⟩ := hrel
      obtain ⟨A5, c5, rfl⟩ := hO.form CeKo
      obtain ⟨⟨⟨f0, f1⟩, f2, f3⟩, hB3, hres⟩ := hKp.out wr hB2
      by_cases hiN : i < N
      ·have hii : (i : Int) < (N : Int) := by omega
       obtain ⟨k, hk⟩ : ∃ k, N - i = k + 1 := ⟨N - i - 1, by omega⟩
       have hk2 : N - (i + 1) = k := by omega
       rw [hk] at hce
       have hx0 := hPM.at0 (i := i) (by omega)
       cases hz : at0 met i
       ·rw [hz] at hx0
        have hC0 : 0 < C := hC1
        have hy1 : i / C < R := Nat.div_lt_of_lt_mul (by rw [Nat.mul_comm, hN]; exact hiN)
        have hx1 : i % C < C := Nat.mod_lt _ hC0
        have hN0 := hid fun h => (celsR_none (f := f) (O := oP) (S := sP) (R := R) (C := C) (k := k) (l := Lc) hz h).symm.trans hce.out
        have hU0 := hid fun re ce h hu => (celsR_used (f := f) (O := oP) (S := sP) (R := R) (C := C) (k := k) (re := re) (ce := ce) (l := Lc) hz h hu).symm.trans hce.out
        have hP0 := hid fun re ce h hu => (celsR_put (f := f) (O := oP) (S := sP) (R := R) (C := C) (k := k) (re := re) (ce := ce) (l := Lc) hz h hu).symm.trans hce.out
        obtain ⟨y, hy⟩ : ∃ y, i / C = y := ⟨_, rfl⟩
        obtain ⟨x, hx⟩ : ∃ x, i % C = x := ⟨_, rfl⟩
        have hdv : Int.tdiv (i : Int) (C : Int) = (y : Int) := by rw [← hy, ← Int.ofNat_tdiv]
        have hmv : Int.tmod (i : Int) (C : Int) = (x : Int) := by rw [← hx, ← Int.ofNat_tmod]
        have hCi : ((C : Int) == 0) = false := by rw [beq_eq_false_iff_ne]; omega
        have hCn : ¬ C = 0 := by omega
        rw [hy, hx] at hN0 hU0 hP0
        rw [hy] at hy1
        rw [hx] at hx1
        have hdw : IntKind.i64.wrap (y : Int) = (y : Int) := by rw [IntKind.wrap_i64]; omega
        have hmw : IntKind.i64.wrap (x : Int) = (x : Int) := by rw [IntKind.wrap_i64]; omega
        have hcl := hid fun (r : Nat) (k : Nat) (e1 : r = y) (e2 : k = x) (W : World) (hb : Below wr.heap.size wr W) => hCel.out r k (by omega) (by omega) W (bel_step hB3 hb)
        replace hcl := hid (hcl.out y x rfl rfl)
        have hst := hid (And.intro hB2 (And.intro hPM (And.intro (And.intro t0 (And.intro t1 (And.intro t2 zt))) hO)))
        clear hce hy hx hB2 hPM t0 t2 zt hO hB3 hres
        go_upto_region 16 with fail
        clear hx0
        have hLe := hid fun re ce h => celR_le (O := oP) (S := sP) (R := R) (C := C) (i := y) (k := x) (re := re) (ce := ce) hy1 hx1 h
        generalize celR oP sP R C y x = q at *
        go_cut [9, 10] (fun s9 s10 wx => ∃ (gc : Nat) (ce : Ce), s9 = .pointer (some ⟨gc, 0, none⟩) ∧ s10 = .bool q.isSome ∧ (∀ p, q = some p → ce = boxC f (ceR y x p.1 p.2)) ∧ wr.heap.size ≤ gc ∧ wx.rangeAt gc 0 [.int .i64 ce.r, .int .i64 ce.c, .int .i64 ce.rs, .int .i64 ce.cs, .int .i64 ce.b.x, .int .i64 ce.b.y, .int .i64 ce.b.w, .int .i64 ce.b.h] ∧ Zn wx gc ∧ Below wr.heap.size wr wx)
        case first =>
         refine Ords.start (x := 15) (S := fun w' => ((w'.cell? ⟨gf, 0, none⟩ = some (.slice A1 nH c1) ∧ w'.cell? ⟨gf, 1, none⟩ = some (.slice A2 nV c2)) ∧ w'.cell? ⟨gf, 2, none⟩ = some (.slice A3 nH c3) ∧ w'.cell? ⟨gf, 3, none⟩ = some (.slice A4 nV c4)) ∧ w'.cell? ⟨gT, 1, none⟩ = some (.int .i64 C)) (by kernel_rfl) ⟨⟨⟨f0, f1⟩, f2, f3⟩, t1⟩ (fun hHeld => ?_)
         have hdb : Below wr.heap.size wr wr.drew := (Below.refl _ _).drew
         generalize wr.drew = xd at hdb hHeld ⊢
         clear f0 f1 f2 f3 t1 hN0 hU0 hP0 hst hKp
         refine' Ords.take (i := 0) ?_ ?_ ?_ ?_ ?_ ?_ ?_ ?_ ?_
         rotate_left 2
         ·(simp only [List.getElem?_toArray, List.getElem?_cons_succ, List.getElem?_cons_zero]; rfl)
         ·kernel_rfl
         ·kernel_rfl
         ·kernel_rfl
         ·kernel_rfl
         ·exact fun _ _ _ h => h
         ·(refine Or.inl ⟨by rfl, ?_⟩; intro w_ hSw_; (try dsimp only at hSw_); go_simp; (try with_reducible rfl))
         ·assumption
         (try simp only [Act.put, Lp0, Lp1, Lp2])
         refine' Ords.take (i := 1) ?_ ?_ ?_ ?_ ?_ ?_ ?_ ?_ ?_
         rotate_left 2
         ·(simp only [List.getElem?_toArray, List.getElem?_cons_succ, List.getElem?_cons_zero]; rfl)
         ·kernel_rfl
         ·kernel_rfl
         ·kernel_rfl
         ·kernel_rfl
         ·exact fun _ _ _ h => h
         ·(refine Or.inl ⟨by rfl, ?_⟩; intro w_ hSw_; (try dsimp only at hSw_); go_simp; (try with_reducible rfl))
         ·assumption
         (try simp only [Act.put, Lp0, Lp1, Lp2])
         refine' Ords.take (i := 2) ?_ ?_ ?_ ?_ ?_ ?_ ?_ ?_ ?_
         rotate_left 2
         ·(simp only [List.getElem?_toArray, List.getElem?_cons_succ, List.getElem?_cons_zero]; rfl)
         ·kernel_rfl
         ·kernel_rfl
         ·kernel_rfl
         ·kernel_rfl
         ·exact fun _ _ _ h => h
         ·(refine Or.inl ⟨by rfl, ?_⟩; intro w_ hSw_; (try dsimp only at hSw_); go_simp; (try with_reducible rfl))
         ·assumption
         (try simp only [Act.put, Lp0, Lp1, Lp2])
         refine' Ords.take (i := 3) ?_ ?_ ?_ ?_ ?_ ?_ ?_ ?_ ?_
         rotate_left 2
         ·(simp only [List.getElem?_toArray, List.getElem?_cons_succ, List.getElem?_cons_zero]; rfl)
         ·kernel_rfl
         ·kernel_rfl
         ·kernel_rfl
         ·kernel_rfl
         ·exact fun _ _ _ h => h
         ·(refine Or.inl ⟨by rfl, ?_⟩; intro w_ hSw_; (try dsimp only at hSw_); go_simp; (try with_reducible rfl))
         ·assumption
         (try simp only [Act.put, Lp0, Lp1, Lp2])
         refine' Ords.take (i := 4) ?_ ?_ ?_ ?_ ?_ ?_ ?_ ?_ ?_
         rotate_left 2
         ·(simp only [List.getElem?_toArray, List.getElem?_cons_succ, List.getElem?_cons_zero]; rfl)
         ·kernel_rfl
         ·kernel_rfl
         ·kernel_rfl
         ·kernel_rfl
         ·exact fun _ _ _ h => h
         ·(refine Or.inl ⟨by rfl, ?_⟩; intro w_ hSw_; (try dsimp only at hSw_); go_simp; (try with_reducible rfl))
         ·assumption
         (try simp only [Act.put, Lp0, Lp1, Lp2])
         refine' Ords.take (i := 5) ?_ ?_ ?_ ?_ ?_ ?_ ?_ ?_ ?_
         rotate_left 2
         ·(simp only [List.getElem?_toArray, List.getElem?_cons_succ, List.getElem?_cons_zero]; rfl)
         ·kernel_rfl
         ·kernel_rfl
         ·kernel_rfl
         ·kernel_rfl
         ·exact fun _ _ _ h => h
         ·(refine Or.inl ⟨by rfl, ?_⟩; intro w_ hSw_; (try dsimp only at hSw_); go_simp; (try with_reducible rfl))
         ·assumption
         (try simp only [Act.put, Lp0, Lp1, Lp2])
         refine' Ords.take (i := 6) ?_ ?_ ?_ ?_ ?_ ?_ ?_ ?_ ?_
         rotate_left 2
         ·(simp only [List.getElem?_toArray, List.getElem?_cons_succ, List.getElem?_cons_zero]; rfl)
         ·kernel_rfl
         ·kernel_rfl
         ·kernel_rfl
         ·kernel_rfl
         ·exact fun _ _ _ h => h
         ·(refine Or.inl ⟨by rfl, ?_⟩; intro w_ hSw_; (try dsimp only at hSw_); go_simp; (try with_reducible rfl))
         ·assumption
         (try simp only [Act.put, Lp0, Lp1, Lp2])
         refine' Ords.take (i := 7) ?_ ?_ ?_ ?_ ?_ ?_ ?_ ?_ ?_
         rotate_left 2
         ·(simp only [List.getElem?_toArray, List.getElem?_cons_succ, List.getElem?_cons_zero]; rfl)
         ·kernel_rfl
         ·kernel_rfl
         ·kernel_rfl
         ·kernel_rfl
         ·exact fun _ _ _ h => h
         ·(refine Or.inl ⟨by rfl, ?_⟩; intro w_ hSw_; (try dsimp only at hSw_); go_simp; (try with_reducible rfl))
         ·assumption
         (try simp only [Act.put, Lp0, Lp1, Lp2])
         refine' Ords.take (i := 8) ?_ ?_ ?_ ?_ ?_ ?_ ?_ ?_ ?_
         rotate_left 2
         ·(simp only [List.getElem?_toArray, List.getElem?_cons_succ, List.getElem?_cons_zero]; rfl)
         ·kernel_rfl
         ·kernel_rfl
         ·kernel_rfl
         ·kernel_rfl
         ·exact fun _ _ _ h => h
         ·(refine Or.inl ⟨by rfl, ?_⟩; intro w_ hSw_; (try dsimp only at hSw_); go_simp; (try with_reducible rfl))
         ·assumption
         (try simp only [Act.put, Lp0, Lp1, Lp2])
         have ltf := cell_lt hHeld.1.1.1
         have ltt := cell_lt hHeld.2
         refine' Ords.fork (i := 9) (j := 13) (by kernel_rfl) (by simp only [List.getElem?_toArray, List.getElem?_cons_succ, List.getElem?_cons_zero]; rfl) (by simp only [List.getElem?_toArray, List.getElem?_cons_succ, List.getElem?_cons_zero]; rfl) (fun K hK => ?_) (fun K hK => ?_)
         ·go_simp
          refine (hcl.out xd hdb).mono ?_
          rintro e x1 ⟨ce, rfl, hce, hv1⟩
          have hb1 := bel_step hdb hv1
          (try go_wp2_with fail)
          refine hK.out _ _ ⟨⟨⟨keep_cell hv1 hHeld.1.1.1, keep_cell hv1 hHeld.1.1.2⟩, keep_cell hv1 hHeld.1.2.1, keep_cell hv1 hHeld.1.2.2⟩, keep_cell hv1 hHeld.2⟩ (fun hHeld => ?_)
          clear hK K
          (try simp only [Act.put, Lp0, Lp1, Lp2])
          refine' Ords.take (i := 10) ?_ ?_ ?_ ?_ ?_ ?_ ?_ ?_ ?_
          rotate_left 2
          ·(simp only [List.getElem?_toArray, List.getElem?_cons_succ, List.getElem?_cons_zero]; rfl)
          ·kernel_rfl
          ·kernel_rfl
          ·kernel_rfl
          ·kernel_rfl
          ·exact fun _ _ _ h => h
          ·(refine Or.inl ⟨by rfl, ?_⟩; intro w_ hSw_; (try dsimp only at hSw_); go_simp; (try with_reducible rfl))
          ·assumption
          (try simp only [Act.put, Lp0, Lp1, Lp2])
          refine' Ords.take (i := 11) ?_ ?_ ?_ ?_ ?_ ?_ ?_ ?_ ?_
          rotate_left 2
          ·(simp only [List.getElem?_toArray, List.getElem?_cons_succ, List.getElem?_cons_zero]; rfl)
          ·kernel_rfl
          ·kernel_rfl
          ·kernel_rfl
          ·kernel_rfl
          ·exact fun _ _ _ h => h
          ·(refine Or.inl ⟨by rfl, ?_⟩; intro w_ hSw_; (try dsimp only at hSw_); go_simp; (try with_reducible rfl))
          ·assumption
          (try simp only [Act.put, Lp0, Lp1, Lp2])
          refine' Ords.take (i := 12) ?_ ?_ ?_ ?_ ?_ ?_ ?_ ?_ ?_
          rotate_left 2
          ·(simp only [List.getElem?_toArray, List.getElem?_cons_succ, List.getElem?_cons_zero]; rfl)
          ·kernel_rfl
          ·kernel_rfl
          ·kernel_rfl
          ·kernel_rfl
          ·exact fun _ _ _ h => h
          ·(refine Or.inl ⟨by rfl, ?_⟩; intro w_ hSw_; (try dsimp only at hSw_); go_simp; (try with_reducible rfl))
          ·assumption
          (try simp only [Act.put, Lp0, Lp1, Lp2])
          have hal : Below x1.heap.size x1 (x1.alloc (.cells #[.int .i64 0, .int .i64 0, .int .i64 0, .int .i64 0, .int .i64 0, .int .i64 0, .int .i64 0, .int .i64 0] 57)) := (Below.refl _ _).alloc (Nat.le_refl _) _
          have hra : (x1.alloc (.cells #[.int .i64 0, .int .i64 0, .int .i64 0, .int .i64 0, .int .i64 0, .int .i64 0, .int .i64 0, .int .i64 0] 57)).rangeAt x1.heap.size 0 [.int .i64 0, .int .i64 0, .int .i64 0, .int .i64 0, .int .i64 0, .int .i64 0, .int .i64 0, .int .i64 0] := rng_alloc
          have hza : Zn (x1.alloc (.cells #[.int .i64 0, .int .i64 0, .int .i64 0, .int .i64 0, .int .i64 0, .int .i64 0, .int .i64 0, .int .i64 0] 57)) x1.heap.size := Zn.new_
          refine' Ords.step (i := 13) (by kernel_rfl) (by simp only [List.getElem?_toArray, List.getElem?_cons_succ, List.getElem?_cons_zero]; rfl) (fun K hK => ?_)
          go_simp
          skip
          (try go_wp2_with fail)
          refine hK.out _ _ ?_ (fun hHeld => ?_)
          ·exact ⟨⟨⟨keep_alloc hHeld.1.1.1, keep_alloc hHeld.1.1.2⟩, keep_alloc hHeld.1.2.1, keep_alloc hHeld.1.2.2⟩, keep_alloc hHeld.2⟩
          clear hK K
          (try simp only [Act.put, Lp0, Lp1, Lp2])
          obtain ⟨x2', hx2⟩ : ∃ x, x1.alloc (.cells #[.int .i64 0, .int .i64 0, .int .i64 0, .int .i64 0, .int .i64 0, .int .i64 0, .int .i64 0, .int .i64 0] 57) = x := ⟨_, rfl⟩
          rw [hx2] at hal hra hza hHeld ⊢
          have hb2 := bel_step hb1 hal
          have hgz := hb1.size
          have hgx := hdb.size
          have hvz := hv1.size
          obtain ⟨gc, hgc⟩ : ∃ x, x1.heap.size = x := ⟨_, rfl⟩
          rw [hgc] at hra hza hgz hvz ⊢
          clear hgc hx2
          have k0 : x2'.cell? ⟨gc, 0, none⟩ = some (.int .i64 0) := hra 0 _ rfl
          have k1 : x2'.cell? ⟨gc, 1, none⟩ = some (.int .i64 0) := hra 1 _ rfl
          have k2 : x2'.cell? ⟨gc, 2, none⟩ = some (.int .i64 0) := hra 2 _ rfl
          have k3 : x2'.cell? ⟨gc, 3, none⟩ = some (.int .i64 0) := hra 3 _ rfl
          have k4 : x2'.cell? ⟨gc, 4, none⟩ = some (.int .i64 0) := hra 4 _ rfl
          have k5 : x2'.cell? ⟨gc, 5, none⟩ = some (.int .i64 0) := hra 5 _ rfl
          have k6 : x2'.cell? ⟨gc, 6, none⟩ = some (.int .i64 0) := hra 6 _ rfl
          have k7 : x2'.cell? ⟨gc, 7, none⟩ = some (.int .i64 0) := hra 7 _ rfl
          have kf := hza.fr
          have kl := hza.lt
          have hcf : gc ≠ gf := by omega
          have hct : gc ≠ gT := by omega
          have hr8 := hid (rng_eight (b0 := .int .i64 ce.r) (b1 := .int .i64 ce.c) (b2 := .int .i64 ce.rs) (b3 := .int .i64 ce.cs) (b4 := .int .i64 ce.b.x) (b5 := .int .i64 ce.b.y) (b6 := .int .i64 ce.b.w) (b7 := .int .i64 ce.b.h) hra hza)
          have hb8 := hid (below_set (below_set (below_set (below_set (below_set (below_set (below_set (below_set hb2 hgz 0 (.int .i64 ce.r)) hgz 1 (.int .i64 ce.c)) hgz 2 (.int .i64 ce.rs)) hgz 3 (.int .i64 ce.cs)) hgz 4 (.int .i64 ce.b.x)) hgz 5 (.int .i64 ce.b.y)) hgz 6 (.int .i64 ce.b.w)) hgz 7 (.int .i64 ce.b.h))
          replace hce := hid hce
          clear hra hza hb2
          refine' Ords.step (i := 14) (by kernel_rfl) (by simp only [List.getElem?_toArray, List.getElem?_cons_succ, List.getElem?_cons_zero]; rfl) (fun K hK => ?_)
          go_simp
          skip
          (try go_wp2_with fail)
          refine hK.out _ _ ?_ (fun hHeld => ?_)
          ·exact ⟨⟨⟨keep_set hcf (keep_set hcf (keep_set hcf (keep_set hcf (keep_set hcf (keep_set hcf (keep_set hcf (keep_set hcf hHeld.1.1.1))))))), keep_set hcf (keep_set hcf (keep_set hcf (keep_set hcf (keep_set hcf (keep_set hcf (keep_set hcf (keep_set hcf hHeld.1.1.2)))))))⟩, keep_set hcf (keep_set hcf (keep_set hcf (keep_set hcf (keep_set hcf (keep_set hcf (keep_set hcf (keep_set hcf hHeld.1.2.1))))))), keep_set hcf (keep_set hcf (keep_set hcf (keep_set hcf (keep_set hcf (keep_set hcf (keep_set hcf (keep_set hcf hHeld.1.2.2)))))))⟩, keep_set hct (keep_set hct (keep_set hct (keep_set hct (keep_set hct (keep_set hct (keep_set hct (keep_set hct hHeld.2)))))))⟩
          clear hK K
          (try simp only [Act.put, Lp0, Lp1, Lp2])
          refine' Ords.last (by kernel_rfl) (by simp only [List.getElem?_toArray, List.getElem?_cons_succ, List.getElem?_cons_zero]; rfl) (by kernel_rfl) (fun K hK => ?_)
          go_simp
          (try go_wp2_with fail)
          refine hK.out _ _ ?_
          clear hK K
          (try simp only [Act.put, Lp0, Lp1, Lp2])
          clear k0 k1 k2 k3 k4 k5 k6 k7
          go_wp2_with fail
          go_meet
          go_light
          exact ⟨gc, ce, rfl, rfl, hce.out, hgz, hr8.out.1, hr8.out.2, hb8.out⟩
         ·go_simp
          (try go_wp2_with fail)
          refine hK.out _ _ ⟨⟨⟨keep_alloc hHeld.1.1.1, keep_alloc hHeld.1.1.2⟩, keep_alloc hHeld.1.2.1, keep_alloc hHeld.1.2.2⟩, keep_alloc hHeld.2⟩ (fun hHeld => ?_)
          clear hK K
          (try simp only [Act.put, Lp0, Lp1, Lp2])
          have hal : Below xd.heap.size xd (xd.alloc (.cells #[.int .i64 0, .int .i64 0, .int .i64 0, .int .i64 0, .int .i64 0, .int .i64 0, .int .i64 0, .int .i64 0] 57)) := (Below.refl _ _).alloc (Nat.le_refl _) _
          have hra : (xd.alloc (.cells #[.int .i64 0, .int .i64 0, .int .i64 0, .int .i64 0, .int .i64 0, .int .i64 0, .int .i64 0, .int .i64 0] 57)).rangeAt xd.heap.size 0 [.int .i64 0, .int .i64 0, .int .i64 0, .int .i64 0, .int .i64 0, .int .i64 0, .int .i64 0, .int .i64 0] := rng_alloc
          have hza : Zn (xd.alloc (.cells #[.int .i64 0, .int .i64 0, .int .i64 0, .int .i64 0, .int .i64 0, .int .i64 0, .int .i64 0, .int .i64 0] 57)) xd.heap.size := Zn.new_
          obtain ⟨x1, hx1⟩ : ∃ x, xd.alloc (.cells #[.int .i64 0, .int .i64 0, .int .i64 0, .int .i64 0, .int .i64 0, .int .i64 0, .int .i64 0, .int .i64 0] 57) = x := ⟨_, rfl⟩
          rw [hx1] at hal hra hza hHeld ⊢
          have hb1 := bel_step hdb hal
          have hgz := hdb.size
          obtain ⟨gc, hgc⟩ : ∃ x, xd.heap.size = x := ⟨_, rfl⟩
          rw [hgc] at hra hza hgz ltf ltt ⊢
          clear hgc hx1
          refine' Ords.step (i := 9) (by kernel_rfl) (by simp only [List.getElem?_toArray, List.getElem?_cons_succ, List.getElem?_cons_zero]; rfl) (fun K hK => ?_)
          go_simp
          (refine (hcl.out x1 hb1).mono ?_; rintro e x2' ⟨ce, rfl, hce, hv1⟩)
          (try go_wp2_with fail)
          refine hK.out _ _ ?_ (fun hHeld => ?_)
          ·exact ⟨⟨⟨keep_cell hv1 hHeld.1.1.1, keep_cell hv1 hHeld.1.1.2⟩, keep_cell hv1 hHeld.1.2.1, keep_cell hv1 hHeld.1.2.2⟩, keep_cell hv1 hHeld.2⟩
          clear hK K
          (try simp only [Act.put, Lp0, Lp1, Lp2])
          replace hra := rng_below hra hv1
          replace hza := hza.below hv1
          have hb2 := bel_step hb1 hv1
          refine' Ords.take (i := 10) ?_ ?_ ?_ ?_ ?_ ?_ ?_ ?_ ?_
          rotate_left 2
          ·(simp only [List.getElem?_toArray, List.getElem?_cons_succ, List.getElem?_cons_zero]; rfl)
          ·kernel_rfl
          ·kernel_rfl
          ·kernel_rfl
          ·kernel_rfl
          ·exact fun _ _ _ h => h
          ·(refine Or.inl ⟨by rfl, ?_⟩; intro w_ hSw_; (try dsimp only at hSw_); go_simp; (try with_reducible rfl))
          ·assumption
          (try simp only [Act.put, Lp0, Lp1, Lp2])
          refine' Ords.take (i := 11) ?_ ?_ ?_ ?_ ?_ ?_ ?_ ?_ ?_
          rotate_left 2
          ·(simp only [List.getElem?_toArray, List.getElem?_cons_succ, List.getElem?_cons_zero]; rfl)
          ·kernel_rfl
          ·kernel_rfl
          ·kernel_rfl
          ·kernel_rfl
          ·exact fun _ _ _ h => h
          ·(refine Or.inl ⟨by rfl, ?_⟩; intro w_ hSw_; (try dsimp only at hSw_); go_simp; (try with_reducible rfl))
          ·assumption
          (try simp only [Act.put, Lp0, Lp1, Lp2])
          refine' Ords.take (i := 12) ?_ ?_ ?_ ?_ ?_ ?_ ?_ ?_ ?_
          rotate_left 2
          ·(simp only [List.getElem?_toArray, List.getElem?_cons_succ, List.getElem?_cons_zero]; rfl)
          ·kernel_rfl
          ·kernel_rfl
          ·kernel_rfl
          ·kernel_rfl
          ·exact fun _ _ _ h => h
          ·(refine Or.inl ⟨by rfl, ?_⟩; intro w_ hSw_; (try dsimp only at hSw_); go_simp; (try with_reducible rfl))
          ·assumption
          (try simp only [Act.put, Lp0, Lp1, Lp2])
          have k0 : x2'.cell? ⟨gc, 0, none⟩ = some (.int .i64 0) := hra 0 _ rfl
          have k1 : x2'.cell? ⟨gc, 1, none⟩ = some (.int .i64 0) := hra 1 _ rfl
          have k2 : x2'.cell? ⟨gc, 2, none⟩ = some (.int .i64 0) := hra 2 _ rfl
          have k3 : x2'.cell? ⟨gc, 3, none⟩ = some (.int .i64 0) := hra 3 _ rfl
          have k4 : x2'.cell? ⟨gc, 4, none⟩ = some (.int .i64 0) := hra 4 _ rfl
          have k5 : x2'.cell? ⟨gc, 5, none⟩ = some (.int .i64 0) := hra 5 _ rfl
          have k6 : x2'.cell? ⟨gc, 6, none⟩ = some (.int .i64 0) := hra 6 _ rfl
          have k7 : x2'.cell? ⟨gc, 7, none⟩ = some (.int .i64 0) := hra 7 _ rfl
          have kf := hza.fr
          have kl := hza.lt
          have hcf : gc ≠ gf := by omega
          have hct : gc ≠ gT := by omega
          have hr8 := hid (rng_eight (b0 := .int .i64 ce.r) (b1 := .int .i64 ce.c) (b2 := .int .i64 ce.rs) (b3 := .int .i64 ce.cs) (b4 := .int .i64 ce.b.x) (b5 := .int .i64 ce.b.y) (b6 := .int .i64 ce.b.w) (b7 := .int .i64 ce.b.h) hra hza)
          have hb8 := hid (below_set (below_set (below_set (below_set (below_set (below_set (below_set (below_set hb2 hgz 0 (.int .i64 ce.r)) hgz 1 (.int .i64 ce.c)) hgz 2 (.int .i64 ce.rs)) hgz 3 (.int .i64 ce.cs)) hgz 4 (.int .i64 ce.b.x)) hgz 5 (.int .i64 ce.b.y)) hgz 6 (.int .i64 ce.b.w)) hgz 7 (.int .i64 ce.b.h))
          replace hce := hid hce
          clear hra hza hb2
          refine' Ords.step (i := 14) (by kernel_rfl) (by simp only [List.getElem?_toArray, List.getElem?_cons_succ, List.getElem?_cons_zero]; rfl) (fun K hK => ?_)
          go_simp
          skip
          (try go_wp2_with fail)
          refine hK.out _ _ ?_ (fun hHeld => ?_)
          ·exact ⟨⟨⟨keep_set hcf (keep_set hcf (keep_set hcf (keep_set hcf (keep_set hcf (keep_set hcf (keep_set hcf (keep_set hcf hHeld.1.1.1))))))), keep_set hcf (keep_set hcf (keep_set hcf (keep_set hcf (keep_set hcf (keep_set hcf (keep_set hcf (keep_set hcf hHeld.1.1.2)))))))⟩, keep_set hcf (keep_set hcf (keep_set hcf (keep_set hcf (keep_set hcf (keep_set hcf (keep_set hcf (keep_set hcf hHeld.1.2.1))))))), keep_set hcf (keep_set hcf (keep_set hcf (keep_set hcf (keep_set hcf (keep_set hcf (keep_set hcf (keep_set hcf hHeld.1.2.2)))))))⟩, keep_set hct (keep_set hct (keep_set hct (keep_set hct (keep_set hct (keep_set hct (keep_set hct (keep_set hct hHeld.2)))))))⟩
          clear hK K
          (try simp only [Act.put, Lp0, Lp1, Lp2])
          refine' Ords.last (by kernel_rfl) (by simp only [List.getElem?_toArray, List.getElem?_cons_succ, List.getElem?_cons_zero]; rfl) (by kernel_rfl) (fun K hK => ?_)
          go_simp
          (try go_wp2_with fail)
          refine hK.out _ _ ?_
          clear hK K
          (try simp only [Act.put, Lp0, Lp1, Lp2])
          clear k0 k1 k2 k3 k4 k5 k6 k7
          go_wp2_with fail
          go_meet
          go_light
          exact ⟨gc, ce, rfl, rfl, hce.out, hgz, hr8.out.1, hr8.out.2, hb8.out⟩
        case rest =>
         obtain ⟨gc, ce, rfl, rfl, hce, hgc, hrc, hzc, hbc⟩ := hcut
         obtain ⟨hB2, hPM, ⟨t0, t1', t2, zt⟩, hO⟩ := hst.out
         have hs5 := hB2.size
         replace hB2 := hB2.below hbc
         replace hPM := hPM.below hbc
         replace t0 := keep_cell hbc t0
         replace t1 := keep_cell hbc t1
         replace t2 := keep_cell hbc t2
         replace zt := zt.below hbc
         replace hO := hO.below hbc
         clear f0 f1 f2 f3 t1' hst hbc hcl hdv hmv hdw hmw
         have hg5 : x5.heap.size ≤ gc := by omega
         have hcM : gc ≠ gM := by omega
         have hcT : gc ≠ gT := by omega
         have hMT : gT ≠ gM := by omega
         cases q with
         | none =>
          obtain rfl := h4f.out (hN0.out rfl).symm
          obtain ⟨-, -, r0, zn, HB⟩ := hKp.out wc hB2
          clear hKp hN0 hU0 hP0 hLe hce hrc hzc t0 t1 t2 zt hO hPM hB2 h4f h5f hCel
          have k0 : (wc).cell? ⟨w.heap.size, 0, none⟩ = some (.int .i64 0) := r0 0 _ rfl
          have k1 : (wc).cell? ⟨w.heap.size, 1, none⟩ = some (.int .i64 0) := r0 1 _ rfl
          have k2 : (wc).cell? ⟨w.heap.size, 2, none⟩ = some (.slice none 0 0) := r0 2 _ rfl
          have ltk := cell_lt k0
          have fk := zn.fr
          have HBf := hid (below_set (below_set (below_set HB (Nat.le_refl _) 0 (.int .i64 0)) (Nat.le_refl _) 1 (.int .i64 0)) (Nat.le_refl _) 2 (.slice none 0 0))
          clear r0 zn HB
          go_wp2
          refine bodyPost_ret (v := .tuple #[.agg #[.int .i64 0, .int .i64 0, .slice none 0 0], .int .i64 (9)]) ?_ rfl ?_
          ·simp [results, Tryz.results15, go_sem, k0, k1, k2]
          ·exact ⟨none, 0, rfl, Knd.Rd.nil _, HBf.out⟩
         | some p =>
          obtain ⟨re, cc⟩ := p
          have hce1 := hce _ rfl
          obtain ⟨⟨l1, l2⟩, l3, l4⟩ := hLe.out re cc rfl
          have hU1 := hid fun hu => h4f.out (hU0.out re cc rfl hu).symm
          have hP1 := hP0.out re cc rfl
          rw [← hce1] at hP1
          obtain ⟨er, ec, ers, ecs, bx, bY, bw, bh⟩ := ce
          obtain ⟨RS, hRS⟩ : ∃ a, re - y = a := ⟨_, rfl⟩
          obtain ⟨CS, hCS⟩ : ∃ a, cc - x = a := ⟨_, rfl⟩
          obtain rfl : er = (y : Int) := congrArg Ce.r hce1
          obtain rfl : ec = (x : Int) := congrArg Ce.c hce1
          obtain rfl : ers = (RS : Int) := by rw [← hRS]; exact congrArg Ce.rs hce1
          obtain rfl : ecs = (CS : Int) := by rw [← hCS]; exact congrArg Ce.cs hce1
          obtain ⟨Qx, hpu⟩ := pu_ok (C := C) (X := x) (Y := y) (U := cc) (V := re) (m := met)
          generalize pntL met C x y cc re true = E at hpu hP1
          replace hP1 := hid hP1
          replace hpu := hid hpu
          clear hce hce1 hLe hN0 hU0 hP0 h4f
          dsimp only at hrc
          have hst := hid (And.intro hB2 (And.intro (And.intro t0 (And.intro t1 (And.intro t2 zt))) (And.intro hO (And.intro hrc hzc))))
          have hKc := hid fun (W' : World) (D' : List Bool) (h : PxR wc gM D' W') => (show (W'.cell? ⟨gT, 1, none⟩ = some (.int .i64 (C : Int)) ∧ (W'.cell? ⟨gc, 0, none⟩ = some (.int .i64 (y : Int)) ∧ W'.cell? ⟨gc, 1, none⟩ = some (.int .i64 (x : Int))) ∧ W'.cell? ⟨gc, 2, none⟩ = some (.int .i64 (RS : Int)) ∧ W'.cell? ⟨gc, 3, none⟩ = some (.int .i64 (CS : Int))) ∧ But2 x5 W' gM gT from
           ⟨⟨h.keep hMT t1, ⟨h.keep hcM (hrc 0 _ rfl), h.keep hcM (hrc 1 _ rfl)⟩, h.keep hcM (hrc 2 _ rfl), h.keep hcM (hrc 3 _ rfl)⟩, hB2.pxr h⟩)
          have hR0 : PxR wc gM (Qx y 0) wc := PxR.refl (by rw [hpu.out.zero]; exact hPM)
          clear hB2 hPM t0 t1 t2 zt hO hrc hzc
          have hwr : IntKind.i64.wrap ((y : Int) + (RS : Int)) = (re : Int) := by rw [IntKind.wrap_i64]; omega
          have hwc : IntKind.i64.wrap ((x : Int) + (CS : Int)) = (cc : Int) := by rw [IntKind.wrap_i64]; omega
          obtain ⟨⟨t1, ⟨p0, p1⟩, p2, p3⟩, -⟩ := hKc.out wc _ hR0
          go_wp2
          clear t1 p0 p1 p2 p3
          obtain ⟨w0, hw0⟩ : ∃ w0, w0 = wc := ⟨_, rfl⟩
          subst hw0
          go_loopw [11] (fun s11 wr => ∃ a : Nat, s11 = .int .i64 a ∧ (y ≤ a ∧ a ≤ re) ∧ Hid (∀ y' x', y ≤ y' → y' < a → x ≤ x' → x' < cc → at0 met (y' * C + x') = false) ∧ PxR w0 gM (Qx a 0) wr) (fun s11 _ => re - (intOf s11).toNat)
          case atStart => exact ⟨y, rfl, ⟨Nat.le_refl _, by omega⟩, hid (fun y' x' h1 h2 => by omega), hR0⟩
          case round =>
           clear hR0
           obtain ⟨a, rfl, ⟨ha1, ha2⟩, hA, hR⟩ := hrel
           obtain ⟨⟨t1, ⟨p0, p1⟩, p2, p3⟩, hB2⟩ := hKc.out wr _ hR
           by_cases hae : a < re
           ·have haei : (a : Int) < (re : Int) := by omega
            have hR1 : PxR w0 gM (Qx a x) wr := hR.cast (by rw [hpu.out.st])
            clear hR hB2
            go_wp2
            clear t1 p0 p1 p2 p3
            obtain ⟨w1, hw1⟩ : ∃ w0, w0 = wr := ⟨_, rfl⟩
            subst hw1
            go_loopw [12] (fun s12 wr => ∃ b : Nat, s12 = .int .i64 b ∧ (x ≤ b ∧ b ≤ cc) ∧ Hid (∀ x', x ≤ x' → x' < b → at0 met (a * C + x') = false) ∧ PxR w0 gM (Qx a b) wr) (fun s12 _ => cc - (intOf s12).toNat)
            case atStart => exact ⟨x, rfl, ⟨Nat.le_refl _, by omega⟩, hid (fun x' h1 h2 => by omega), hR1⟩
            case round =>
             clear hR1
             obtain ⟨b, rfl, ⟨hb1, hb2⟩, hI, hR⟩ := hrel
             obtain ⟨⟨t1, ⟨p0, p1⟩, p2, p3⟩, hB2⟩ := hKc.out wr _ hR
             by_cases hbe : b < cc
             ·have hbei : (b : Int) < (cc : Int) := by omega
              have hidx : a * C + b < N := by rw [← hN]; exact pl_lt (by omega) (by omega)
              have hbC : b < C := by omega
              have hlq : (Qx a b).length = N := (hpu.out.len a b).trans hml
              have hxc := hR.a.at0 (i := a * C + b) (by omega)
              rw [hpu.out.old a b hbC (by omega)] at hxc
              have hw1 : IntKind.i64.wrap ((a : Int) * (C : Int)) = ((a * C : Nat) : Int) := by rw [IntKind.wrap_i64, Int.natCast_mul]; rw [← Int.natCast_mul]; omega
              have hw2 : IntKind.i64.wrap (((a * C : Nat) : Int) + (b : Int)) = ((a * C + b : Nat) : Int) := by rw [IntKind.wrap_i64]; omega
              cases hz2 : at0 met (a * C + b)
              ·rw [hz2] at hxc
               have hI2 := hid (fun (x' : Nat) (h1 : x ≤ x') (h2 : x' < b + 1) => (show at0 met (a * C + x') = false from by
                by_cases e : x' = b
                ·rw [e]; exact hz2
                ·exact hI.out x' h1 (by omega)))
               have hR2 := hid (hR.set (j := a * C + b) (by omega) true)
               rw [hpu.out.set a b hbC hbe hb1 ha1 hae] at hR2
               have hfz := hR.a.z.fr
               clear hI hR hz2 hlq hB2
               generalize a * C + b = ix at *
               generalize a * C = iy at *
               have hixi : (ix : Int) < (N : Int) := by omega
               go_wp2
               go_roundw
               case rel => exact ⟨b + 1, by go_num, ⟨by omega, by omega⟩, hI2, hR2.out⟩
               case measure => simp [intOf]; omega
              ·rw [hz2] at hxc
               obtain rfl := hU1.out (anyU_t ha1 hae hb1 hbe hz2)
               obtain ⟨-, -, r0, zn, HB⟩ := hKp.out wr hB2
               clear hKp hU1 hP1 hA hI hR hz2 hlq hB2 hst hKc hpu h5f hCel
               generalize a * C + b = ix at *
               generalize a * C = iy at *
               have hixi : (ix : Int) < (N : Int) := by omega
               have k0 : (wr).cell? ⟨w.heap.size, 0, none⟩ = some (.int .i64 0) := r0 0 _ rfl
               have k1 : (wr).cell? ⟨w.heap.size, 1, none⟩ = some (.int .i64 0) := r0 1 _ rfl
               have k2 : (wr).cell? ⟨w.heap.size, 2, none⟩ = some (.slice none 0 0) := r0 2 _ rfl
               have ltk := cell_lt k0
               have fk := zn.fr
               have HBf := hid (below_set (below_set (below_set HB (Nat.le_refl _) 0 (.int .i64 0)) (Nat.le_refl _) 1 (.int .i64 0)) (Nat.le_refl _) 2 (.slice none 0 0))
               clear r0 zn HB
               go_wp2
               refine bodyPost_ret (v := .tuple #[.agg #[.int .i64 0, .int .i64 0, .slice none 0 0], .int .i64 (9)]) ?_ rfl ?_
               ·simp [results, Tryz.results15, go_sem, k0, k1, k2]
               ·exact ⟨none, 0, rfl, Knd.Rd.nil _, HBf.out⟩
             ·obtain rfl : b = cc := by omega
              have hbei : ¬ (b : Int) < (b : Int) := by omega
              have hA2 := hid (fun (y' x' : Nat) (h1 : y ≤ y') (h2 : y' < a + 1) (h3 : x ≤ x') (h4 : x' < b) => (show at0 met (y' * C + x') = false from by
               by_cases e : y' = a
               ·rw [e]; exact hI.out x' h3 h4
               ·exact hA.out y' x' h1 (by omega) h3 h4))
              have hR2 := hid (hR.cast (hpu.out.row a b (Nat.le_refl _)))
              clear hA hI hR hB2
              go_wp2
              go_roundw
              case rel => exact ⟨a + 1, by go_num, ⟨by omega, by omega⟩, hA2, hR2.out⟩
              case measure => simp [intOf]; omega
           ·obtain rfl : a = re := by omega
            have haei : ¬ (a : Int) < (a : Int) := by omega
            have hS1 := hid (hP1.out (anyU_f (fun y' x' h1 h2 h3 h4 => hA.out y' x' h1 h2 h3 h4)))
            have hRE : PxR w0 gM E wr := hR.cast (hpu.out.fin a (Nat.le_refl _))
            obtain ⟨hB0, ⟨s0, s1, s2, sz⟩, hO0, hrc, hzc⟩ := hst.out
            have hB3 := hB0.pxr hRE
            have hP3 := hRE.a
            have t0' := hRE.keep hMT s0
            have t1' := hRE.keep hMT s1
            have t2' := hRE.keep hMT s2
            have hz3 := hRE.zn hMT sz
            have hM5 : gM < x5.heap.size := hpl
            have hO3 := hO0.grown hRE.gb (.inr fun e => by have := (hO0.lt e).1; omega)
            have n0 := hRE.keep hcM (hrc 0 _ rfl)
            have n1 := hRE.keep hcM (hrc 1 _ rfl)
            have n2 := hRE.keep hcM (hrc 2 _ rfl)
            have n3 := hRE.keep hcM (hrc 3 _ rfl)
            have n4 := hRE.keep hcM (hrc 4 _ rfl)
            have n5 := hRE.keep hcM (hrc 5 _ rfl)
            have n6 := hRE.keep hcM (hrc 6 _ rfl)
            have n7 := hRE.keep hcM (hrc 7 _ rfl)
            simp only [Nat.zero_add] at n0 n1 n2 n3 n4 n5 n6 n7
            have hEl : E.length = N := by
             have e1 := hpu.out.len a 0
             rw [hpu.out.fin a (Nat.le_refl _)] at e1
             omega
            rw [← hk2] at hS1
            clear hA hR hRE hB2 hst hKc hKp hP1 hU1 hpu h5f hCel hB0 s0 s1 s2 sz hO0 hrc hzc
            obtain ⟨z, hzw⟩ : ∃ z, z = wr := ⟨_, rfl⟩
            subst hzw
            have zsz := hB3.size
            have hbA : Below z.heap.size z (z.alloc (.cells #[.int .i64 (y : Int), .int .i64 (x : Int), .int .i64 (RS : Int), .int .i64 (CS : Int), .int .i64 bx, .int .i64 bY, .int .i64 bw, .int .i64 bh] 57)) := (Below.refl _ _).alloc (Nat.le_refl _) _
            have hr := rng_alloc (w := z) (cs := [.int .i64 (y : Int), .int .i64 (x : Int), .int .i64 (RS : Int), .int .i64 (CS : Int), .int .i64 bx, .int .i64 bY, .int .i64 bw, .int .i64 bh]) (t := 57)
            have hBa := hid (hB3.below hbA)
            have hPa := hid (hP3.below hbA)
            have hOa := hid (hO3.below hbA)
            have hza := hid (hz3.below hbA)
            have tta := hid (And.intro (keep_cell hbA t0') (keep_cell hbA t1'))
            have t2a := keep_cell hbA t2'
            have hTM2 : gM ≠ gT := by omega
            clear hB3 hP3 hO3 hz3 t0' hbA
            go_wp2_with (at_builtin; go_loud (refine Knd.app1 CeKo rfl (.tmp 115) (.tmp 117) rfl x5.heap.size (.slice A5 Lc.length c5) Lc ⟨y, x, RS, CS, ⟨bx, bY, bw, bh⟩⟩ z.heap.size rfl hOa.out rfl hr (by omega) (by simp only [World.size_alloc]; omega) ?_); intro v' w' hO' hg' hat'; go_loud (obtain ⟨A6, c6, e6⟩ := hO'.form CeKo; obtain ⟨L6, hL6⟩ : ∃ m, (Lc ++ [(⟨y, x, RS, CS, ⟨bx, bY, bw, bh⟩⟩ : Ce)]).length = m := ⟨_, rfl⟩; rw [hL6] at e6; replace hL6 := hid hL6; subst e6; have hsy := grd_app hBa.out hPa.out hOa.out hza.out tta.out.1 tta.out.2 hO' hg' hM5 hT5 hTM2; have t2b := hg'.cell t2a (show some gT ≠ _ from fun e => by have := (hOa.out.lt e.symm).1; omega); have hfT := hsy.2.2.2.1.fr; have hsy := hid hsy; clear hg' hat' hO' hBa hPa hOa hza tta t2a hr n0 n1 n2 n3 n4 n5 n6 n7 t2'))
            have hfl : (Lc ++ [(⟨y, x, RS, CS, ⟨bx, bY, bw, bh⟩⟩ : Ce)]).length ≤ i + 1 := by simp; omega
            have hres := hid (show But2 x5 (w'.setCell ⟨gT, 2, none⟩ (.slice A6 L6 c6)) gM gT ∧ PxA (w'.setCell ⟨gT, 2, none⟩ (.slice A6 L6 c6)) gM E ∧ ((w'.setCell ⟨gT, 2, none⟩ (.slice A6 L6 c6)).cell? ⟨gT, 0, none⟩ = some (.int .i64 (R : Int)) ∧ (w'.setCell ⟨gT, 2, none⟩ (.slice A6 L6 c6)).cell? ⟨gT, 1, none⟩ = some (.int .i64 (C : Int)) ∧ (w'.setCell ⟨gT, 2, none⟩ (.slice A6 L6 c6)).cell? ⟨gT, 2, none⟩ = some (.slice A6 L6 c6) ∧ Zn (w'.setCell ⟨gT, 2, none⟩ (.slice A6 L6 c6)) gT) ∧ CeK.Own (w'.setCell ⟨gT, 2, none⟩ (.slice A6 L6 c6)) x5.heap.size (.slice A6 L6 c6) (Lc ++ [⟨y, x, RS, CS, ⟨bx, bY, bw, bh⟩⟩]) from by
             obtain ⟨s1, s2, ⟨s3, s4⟩, s5, s6⟩ := hsy.out
             exact ⟨s1.set (.inr (.inr rfl)), s2.far (by omega), ⟨(cell_set_ne (by omega)).trans s3, (cell_set_ne (by omega)).trans s4, at_set t2b, s5.set_⟩, s6.grown gb_set (.inr fun e => by have := (s6.lt e).1; omega)⟩)
            clear hsy t2b hfT
            go_roundw
            case rel => exact ⟨i + 1, E, _, _, by go_num, by omega, hEl, hfl, hS1, hres.out.1, hres.out.2.1, hres.out.2.2.1, hres.out.2.2.2⟩
            case measure => simp [intOf]; omega
       ·rw [hz] at hx0
        have hce2 := hid ((celsR_met hz).symm.trans hce.out)
        rw [← hk2] at hce2
        have hst := hid (And.intro hB2 (And.intro hPM (And.intro (And.intro t0 (And.intro t1 (And.intro t2 zt))) hO)))
        clear hce hB2 hPM t0 t1 t2 zt hO hk hk2 hres hB3 f0 f1 f2 f3
        go_wp2
        go_roundw
        case rel => exact ⟨i + 1, met, Lc, _, by go_num, by omega, hml, by omega, hce2, hst.out.1, hst.out.2.1, hst.out.2.2.1, hst.out.2.2.2⟩
        case measure => simp [intOf]; omega
      ·obtain rfl : i = N := by omega
       have hii : ¬ (i : Int) < (i : Int) := by omega
       rw [Nat.sub_self, celsR_zero] at hce
       obtain rfl := h5f.out Lc hce.out.symm
       obtain ⟨r0, zn, HB⟩ := hres
       have k0 : wr.cell? ⟨w.heap.size, 0, none⟩ = some (.int .i64 0) := r0 0 _ rfl
       have k1 : wr.cell? ⟨w.heap.size, 1, none⟩ = some (.int .i64 0) := r0 1 _ rfl
       have k2' : wr.cell? ⟨w.heap.size, 2, none⟩ = some (.slice none 0 0) := r0 2 _ rfl
       have fk := zn.fr
       have hO3 := ((hO.grown (gb_set (w := wr) (g := w.heap.size) (i := 0) (v := .int .i64 (R : Int))) (.inr fun e => by have := (hO.lt e).1; omega)).grown (gb_set (g := w.heap.size) (i := 1) (v := .int .i64 (C : Int))) (.inr fun e => by have := (hO.lt e).1; omega)).grown (gb_set (g := w.heap.size) (i := 2) (v := .slice A5 Lc.length c5)) (.inr fun e => by have := (hO.lt e).1; omega)
       have hfin := hid (And.intro (hO3.rd2 CeKo).1 (below_set (below_set (below_set HB (Nat.le_refl _) 0 (.int .i64 (R : Int))) (Nat.le_refl _) 1 (.int .i64 (C : Int))) (Nat.le_refl _) 2 (.slice A5 Lc.length c5)))
       clear hKp hce h4f h5f hB2 hPM hO hO3 r0 zn HB f0 f1 f2 f3 hB3
       go_wp2
       refine bodyPost_ret (v := .tuple #[.agg #[.int .i64 (R : Int), .int .i64 (C : Int), .slice A5 Lc.length c5], .int .i64 0]) ?_ rfl ?_
       ·simp [results, Tryz.results15, go_sem, k0, k1, k2']
       ·exact ⟨A5, c5, rfl, hfin.out⟩
end Go.Proofs.YtjfgklhifhaaoaaGreat
