/- Reading order: the stable sort's merging of two rows. Conditions: none beyond the sizes. -/
import Derived.Test.YtjdgjhaggpahkaaZWC
set_option linter.unusedVariables false
set_option linter.unusedSimpArgs false
namespace Go.Proofs.Ytjdgjhaggpahkaa
open Go.RowKit Go.Deep Go.Shelf Go.Lib Go.Sort
theorem ltOf_true {α : Type} {cf : α → α → Int} {x y : α} (h : ltOf cf x y = true) : cf x y < 0 := of_decide_eq_true h
theorem ltOf_false {α : Type} {cf : α → α → Int} {x y : α} (h : ltOf cf x y = false) : ¬ cf x y < 0 := of_decide_eq_false h
/-- what a merging leaves -/
structure Mrg {α : Type} [Inhabited α] (enc : α → Value) (lt : α → α → Bool) (w0 : World) (blk off : Nat) (d : Array α) (a b : Nat) (d' : Array α) (w' : World) : Prop where
 sz : d'.size = d.size
 pm : PermIn a b d d'
 srt : SortedIn lt a b d'
 sw : SW enc w0 blk off d' w'
section
variable {α : Type} [Inhabited α] (enc : α → Value) (blk off cap : Nat) (d0 : Array α) (w0 : World) (cf : α → α → Int) (g : Nat) (cb : Array Value)
set_option maxRecDepth 100000 in
set_option maxHeartbeats 8000000 in
theorem sym1 (hO : SWO (ltOf cf)) (eg : ∀ args w, (callFunc g args).run Try.prog w = .ok (.enter g args) w) (hcmp : CmpLays1 Try.prog g cb enc cf blk off d0.size w0) (R : Row1 enc w0 blk off d0)
  (d : Array α) (w : World) (a m b : Nat) (hs : d.size = d0.size) (S : SW enc w0 blk off d w) (ham : m = a + 1) (hmb : m < b) (hb : b ≤ d.size) (hsz : d0.size < 4611686018427387904) (hV : SortedIn (ltOf cf) m b d) :
  Calls Try.prog 52 #[.slice (some ⟨blk, off, none⟩) d0.size cap, .int .i64 (a : Int), .int .i64 (m : Int), .int .i64 (b : Int), .func (.func g) #[] cb] w fun e w' => e = .returned (.tuple #[]) ∧ ∃ d', Mrg enc (ltOf cf) w0 blk off d a b d' w' := by
 have S0 := hid S
 have HC := hid hcmp
 have HV := hid hV
 clear S hcmp hV
 obtain ⟨N, hN⟩ : ∃ N, d0.size = N := ⟨_, rfl⟩
 have mixed : Try.prog.follows .mixedOrders = true := by kernel_rfl
 have hst := R.hO.store Try.prog
 have hcl0 := R.hO.cells
 simp only [Value.cells] at hcl0
 have e1 : IntKind.i64.wrap ((m : Int) - (a : Int)) = 1 := by rw [IntKind.wrap_i64]; omega
 have hm0 : 1 ≤ m := by omega
 replace ham := hid ham
 rw [hN]
 go_enter Try.func52, Try.ntmps52
 go_wp2
 go_loopw [10, 11] (fun s10 s11 wr => ∃ (i j : Nat), s10 = .int .i64 (i : Int) ∧ s11 = .int .i64 (j : Int) ∧ m ≤ i ∧ i ≤ j ∧ j ≤ b ∧ Hid (i = m ∨ ltOf cf d[i - 1]! d[a]! = true) ∧ Hid (j = b ∨ ltOf cf d[j]! d[a]! = false) ∧ Hid (SW enc w0 blk off d wr)) (fun s10 s11 _ => (intOf s11).toNat - (intOf s10).toNat)
 case atStart => exact ⟨m, b, rfl, rfl, Nat.le_refl _, by omega, Nat.le_refl _, .inl rfl, .inl rfl, S0⟩
 case round =>
  clear S0
  obtain ⟨i, j, rfl, rfl, hi, hij, hj, hL, hR, SK⟩ := hrel
  by_cases hlt : i < j
  ·have hltz : (i : Int) < (j : Int) := by omega
   have e2 : IntKind.i64.wrap ((i : Int) + (j : Int)) = ((i + j : Nat) : Int) := by rw [IntKind.wrap_i64]; omega
   obtain ⟨sm, hsm⟩ : ∃ z, i + j = z := ⟨_, rfl⟩
   rw [hsm] at e2
   obtain ⟨h, hh⟩ : ∃ z, sm / 2 = z := ⟨_, rfl⟩
   have e3 : (sm : Int) / 2 = (h : Int) := by omega
   have h1 : i ≤ h := by omega
   have h2 : h < j := by omega
   have b1 : (h : Int) < (N : Int) := by omega
   have b2 : (a : Int) < (N : Int) := by have := ham.out; omega
   have hal : a < d.size := by have := ham.out; omega
   clear hsm hh
   go_upto_region 5 with fail
   cases hlv : ltOf cf d[h]! d[a]! with
   | true =>
    have hL2 := hid (show h + 1 = m ∨ ltOf cf d[h + 1 - 1]! d[a]! = true from .inr (by rw [Nat.add_sub_cancel]; exact hlv))
    obtain ⟨x_, hx_⟩ : ∃ x, x = d[h]! := ⟨_, rfl⟩
    obtain ⟨y_, hy_⟩ : ∃ x, x = d[a]! := ⟨_, rfl⟩
    have la_ := SK.out.cl R (by omega) h (by omega)
    have lb_ := SK.out.cl R (by omega) a (by omega)
    rw [← hx_] at la_
    rw [← hy_] at lb_
    have hc_ := SK.out.cmp HC.out (by omega) x_ y_
    have hv_ := ltOf_true (cf := cf) (x := x_) (y := y_) (by rw [hx_, hy_]; exact hlv)
    have hd_ : decide (cf x_ y_ < 0) = true := by rw [hx_, hy_]; exact hlv
    clear hx_ hy_
    go_wp2_with fail
    go_quiet_grown (first | (go_at_fn g; refine Calls.grown_of (hc_ _ _)))
    have S2 : Hid (SW enc w0 blk off d (grow (wr.drewN nq) osq)) := SK.out.grown nq osq
    clear la_ lb_ hc_ SK
    generalize grow (wr.drewN nq) osq = w2 at S2 ⊢
    clear nq osq
    clear hlv
    go_wp2
    go_roundw
    case rel => exact ⟨h + 1, j, by go_num, rfl, by omega, by omega, hj, hL2, hR, S2⟩
    case measure => simp [intOf]; omega
   | false =>
    have hR2 := hid (show h = b ∨ ltOf cf d[h]! d[a]! = false from .inr hlv)
    obtain ⟨x_, hx_⟩ : ∃ x, x = d[h]! := ⟨_, rfl⟩
    obtain ⟨y_, hy_⟩ : ∃ x, x = d[a]! := ⟨_, rfl⟩
    have la_ := SK.out.cl R (by omega) h (by omega)
    have lb_ := SK.out.cl R (by omega) a (by omega)
    rw [← hx_] at la_
    rw [← hy_] at lb_
    have hc_ := SK.out.cmp HC.out (by omega) x_ y_
    have hv_ := ltOf_false (cf := cf) (x := x_) (y := y_) (by rw [hx_, hy_]; exact hlv)
    have hd_ : decide (cf x_ y_ < 0) = false := by rw [hx_, hy_]; exact hlv
    clear hx_ hy_
    go_wp2_with fail
    go_quiet_grown (first | (go_at_fn g; refine Calls.grown_of (hc_ _ _)))
    have S2 : Hid (SW enc w0 blk off d (grow (wr.drewN nq) osq)) := SK.out.grown nq osq
    clear la_ lb_ hc_ SK
    generalize grow (wr.drewN nq) osq = w2 at S2 ⊢
    clear nq osq
    clear hlv
    go_wp2
    go_roundw
    case rel => exact ⟨i, h, rfl, rfl, hi, by omega, by omega, hL, hR2, S2⟩
    case measure => simp [intOf]; omega
  ·obtain rfl : i = j := by omega
   have hltz : ¬ (i : Int) < (i : Int) := by omega
   have e2 : IntKind.i64.wrap ((i : Int) - 1) = ((i - 1 : Nat) : Int) := by rw [IntKind.wrap_i64]; omega
   obtain ⟨i1, hi1⟩ : ∃ z, i - 1 = z := ⟨_, rfl⟩
   rw [hi1] at e2
   have hsrt := hid (show SrtF (ltOf cf) a b (rotF (fun k => d[k]!) a (a + 1) i) from srt_up hO (by have := ham.out; omega) hj (ham.out ▸ HV.out) (by rw [← ham.out]; exact hL.out) hR.out)
   have hrt0 := hid (fun k => (show d[k]! = rotF (fun k => d[k]!) a (a + 1) (a + 1) k from by rw [rot_up0]))
   have hi2 : i1 + 1 = i := by omega
   have ha1 : a ≤ i1 := by have := ham.out; omega
   replace hi2 := hid hi2
   clear hi1 hL hR e1
   go_wp2
   go_loopw [13] (fun s13 wr => ∃ (k : Nat) (dk : Array α), s13 = .int .i64 (k : Int) ∧ a ≤ k ∧ k ≤ i1 ∧ dk.size = d.size ∧ Hid (PermIn a b d dk) ∧ Hid (∀ x, dk[x]! = rotF (fun k => d[k]!) a (a + 1) (k + 1) x) ∧ Hid (SW enc w0 blk off dk wr)) (fun s13 _ => i1 - (intOf s13).toNat)
   case atStart => exact ⟨a, d, rfl, Nat.le_refl _, ha1, rfl, permIn_refl _ _ _, hrt0, SK⟩
   case round =>
    clear SK hrt0
    obtain ⟨k, dk, rfl, hk1, hk2, hk, hP, hF, SK⟩ := hrel
    by_cases hki : k < i1
    ·have hkz : (k : Int) < (i1 : Int) := by omega
     obtain ⟨k1, hk1e⟩ : ∃ z, k + 1 = z := ⟨_, rfl⟩
     have e3 : IntKind.i64.wrap ((k : Int) + 1) = (k1 : Int) := by have := hi2.out; rw [IntKind.wrap_i64]; omega
     have bk : (k : Int) < (N : Int) := by have := hi2.out; omega
     have bk1 : (k1 : Int) < (N : Int) := by have := hi2.out; omega
     have hkd : k < dk.size := by have := hi2.out; omega
     have hkd1 : k1 < dk.size := by have := hi2.out; omega
     have hP2 := hid (permIn_trans _ _ _ a b hP.out (swp_permIn dk a b k k1 (by omega) (by have := hi2.out; omega) (by omega) (by have := hi2.out; omega) (by omega)))
     have hF2 := hid fun x => (swp_F hF.out (i := k) (j := k1) hkd hkd1 x).trans (show _ = rotF (fun k => d[k]!) a (a + 1) (k1 + 1) x from by rw [← hk1e, rot_up _ (by omega)])
     have hks : (swp dk k k1).size = d.size := by rw [size_swp]; exact hk
     have hk1b : k1 ≤ i1 := by omega
     have hk1a : a ≤ k1 := by omega
     have hk1m : i1 - k1 < i1 - k := by omega
     clear hP hF hk1e
     go_upto_region 11 with fail
     obtain ⟨x_, hx_⟩ : ∃ x, x = dk[k]! := ⟨_, rfl⟩
     obtain ⟨y_, hy_⟩ : ∃ x, x = dk[k1]! := ⟨_, rfl⟩
     have S3 : Hid (SW enc w0 blk off (Go.Sort.swp dk k k1) ((wr.setCell ⟨blk, off + k, none⟩ (enc y_)).setCell ⟨blk, off + k1, none⟩ (enc x_)).drew) := by rw [hx_, hy_]; exact SK.out.swapped R k k1 (by omega) (by omega)
     have ca_ := SK.out.c1 R (by omega) k (by omega)
     have cb_ := SK.out.c1 R (by omega) k1 (by omega)
     have fa_ := SK.out.f1 R (by omega) k (by omega)
     have fb_ := SK.out.f1 R (by omega) k1 (by omega)
     obtain ⟨u_, cc_⟩ := SK.out.c2 R (by omega) k k1 (by omega) (by omega) (enc y_)
     rw [← hx_] at ca_
     rw [← hy_] at cb_
     clear hx_ hy_ SK
     go_wp2_with fail
     go_big_region_o
     clear ca_ cb_ cc_ fa_ fb_
     generalize ((wr.setCell ⟨blk, off + k, none⟩ (enc y_)).setCell ⟨blk, off + k1, none⟩ (enc x_)).drew = w3 at S3 ⊢
     go_wp2
     go_roundw
     case rel => exact ⟨k1, swp dk k k1, rfl, hk1a, hk1b, hks, hP2, hF2, S3⟩
     case measure => simp [intOf]; exact hk1m
    ·obtain rfl : k = i1 := by omega
     have hkz : ¬ (k : Int) < (k : Int) := by omega
     go_wp2
     (try simp only [Exit.inBlock, Exit.then])
     refine bodyPost_ret (results_none rfl _ _ _) rfl ?_
     exact ⟨rfl, dk, hk, hP.out, fun x y hx hxy hy => by rw [hF.out, hF.out, hi2.out]; exact hsrt.out x y hx hxy hy, SK.out⟩
set_option maxRecDepth 100000 in
set_option maxHeartbeats 8000000 in
theorem sym2 (hO : SWO (ltOf cf)) (eg : ∀ args w, (callFunc g args).run Try.prog w = .ok (.enter g args) w) (hcmp : CmpLays1 Try.prog g cb enc cf blk off d0.size w0) (R : Row1 enc w0 blk off d0)
  (d : Array α) (w : World) (a m b : Nat) (hs : d.size = d0.size) (S : SW enc w0 blk off d w) (ham : a + 1 < m) (hmb : b = m + 1) (hb : b ≤ d.size) (hsz : d0.size < 4611686018427387904) (hU : SortedIn (ltOf cf) a m d) :
  Calls Try.prog 52 #[.slice (some ⟨blk, off, none⟩) d0.size cap, .int .i64 (a : Int), .int .i64 (m : Int), .int .i64 (b : Int), .func (.func g) #[] cb] w fun e w' => e = .returned (.tuple #[]) ∧ ∃ d', Mrg enc (ltOf cf) w0 blk off d a b d' w' := by
 have S0 := hid S
 have HC := hid hcmp
 have HU := hid hU
 clear S hcmp hU
 obtain ⟨N, hN⟩ : ∃ N, d0.size = N := ⟨_, rfl⟩
 have mixed : Try.prog.follows .mixedOrders = true := by kernel_rfl
 have hst := R.hO.store Try.prog
 have hcl0 := R.hO.cells
 simp only [Value.cells] at hcl0
 have e1 : IntKind.i64.wrap ((m : Int) - (a : Int)) = ((m - a : Nat) : Int) := by rw [IntKind.wrap_i64]; omega
 obtain ⟨ma, hma⟩ : ∃ z, m - a = z := ⟨_, rfl⟩
 rw [hma] at e1
 have n1 : ((ma : Int) == 1) = false := beq_eq_false_iff_ne.2 (by omega)
 have n2 : ¬ (ma : Int) = 1 := by omega
 have e2 : IntKind.i64.wrap ((b : Int) - (m : Int)) = 1 := by rw [IntKind.wrap_i64]; omega
 have hmd : m < d.size := by omega
 have hmb2 : m + 1 ≤ b := by omega
 replace hmb := hid hmb
 clear hma
 rw [hN]
 go_enter Try.func52, Try.ntmps52
 go_wp2
 go_loopw [14, 15] (fun s14 s15 wr => ∃ (i j : Nat), s14 = .int .i64 (i : Int) ∧ s15 = .int .i64 (j : Int) ∧ a ≤ i ∧ i ≤ j ∧ j ≤ m ∧ Hid (i = a ∨ ltOf cf d[m]! d[i - 1]! = false) ∧ Hid (j = m ∨ ltOf cf d[m]! d[j]! = true) ∧ Hid (SW enc w0 blk off d wr)) (fun s14 s15 _ => (intOf s15).toNat - (intOf s14).toNat)
 case atStart => exact ⟨a, m, rfl, rfl, Nat.le_refl _, by omega, Nat.le_refl _, .inl rfl, .inl rfl, S0⟩
 case round =>
  clear S0
  obtain ⟨i, j, rfl, rfl, hi, hij, hj, hL, hR, SK⟩ := hrel
  by_cases hlt : i < j
  ·have hltz : (i : Int) < (j : Int) := by omega
   have e3 : IntKind.i64.wrap ((i : Int) + (j : Int)) = ((i + j : Nat) : Int) := by rw [IntKind.wrap_i64]; omega
   obtain ⟨sm, hsm⟩ : ∃ z, i + j = z := ⟨_, rfl⟩
   rw [hsm] at e3
   obtain ⟨h, hh⟩ : ∃ z, sm / 2 = z := ⟨_, rfl⟩
   have e4 : (sm : Int) / 2 = (h : Int) := by omega
   have h1 : i ≤ h := by omega
   have h2 : h < j := by omega
   have b1 : (h : Int) < (N : Int) := by omega
   have b2 : (m : Int) < (N : Int) := by omega
   clear hsm hh
   go_upto_region 17 with fail
   cases hlv : ltOf cf d[m]! d[h]! with
   | false =>
    have hL2 := hid (show h + 1 = a ∨ ltOf cf d[m]! d[h + 1 - 1]! = false from .inr (by rw [Nat.add_sub_cancel]; exact hlv))
    obtain ⟨x_, hx_⟩ : ∃ x, x = d[m]! := ⟨_, rfl⟩
    obtain ⟨y_, hy_⟩ : ∃ x, x = d[h]! := ⟨_, rfl⟩
    have la_ := SK.out.cl R (by omega) m (by omega)
    have lb_ := SK.out.cl R (by omega) h (by omega)
    rw [← hx_] at la_
    rw [← hy_] at lb_
    have hc_ := SK.out.cmp HC.out (by omega) x_ y_
    have hv_ := ltOf_false (cf := cf) (x := x_) (y := y_) (by rw [hx_, hy_]; exact hlv)
    have hd_ : decide (cf x_ y_ < 0) = false := by rw [hx_, hy_]; exact hlv
    clear hx_ hy_
    go_wp2_with fail
    go_quiet_grown (first | (go_at_fn g; refine Calls.grown_of (hc_ _ _)))
    have S2 : Hid (SW enc w0 blk off d (grow (wr.drewN nq) osq)) := SK.out.grown nq osq
    clear la_ lb_ hc_ SK
    generalize grow (wr.drewN nq) osq = w2 at S2 ⊢
    clear nq osq
    clear hlv
    go_wp2
    go_roundw
    case rel => exact ⟨h + 1, j, by go_num, rfl, by omega, by omega, hj, hL2, hR, S2⟩
    case measure => simp [intOf]; omega
   | true =>
    have hR2 := hid (show h = m ∨ ltOf cf d[m]! d[h]! = true from .inr hlv)
    obtain ⟨x_, hx_⟩ : ∃ x, x = d[m]! := ⟨_, rfl⟩
    obtain ⟨y_, hy_⟩ : ∃ x, x = d[h]! := ⟨_, rfl⟩
    have la_ := SK.out.cl R (by omega) m (by omega)
    have lb_ := SK.out.cl R (by omega) h (by omega)
    rw [← hx_] at la_
    rw [← hy_] at lb_
    have hc_ := SK.out.cmp HC.out (by omega) x_ y_
    have hv_ := ltOf_true (cf := cf) (x := x_) (y := y_) (by rw [hx_, hy_]; exact hlv)
    have hd_ : decide (cf x_ y_ < 0) = true := by rw [hx_, hy_]; exact hlv
    clear hx_ hy_
    go_wp2_with fail
    go_quiet_grown (first | (go_at_fn g; refine Calls.grown_of (hc_ _ _)))
    have S2 : Hid (SW enc w0 blk off d (grow (wr.drewN nq) osq)) := SK.out.grown nq osq
    clear la_ lb_ hc_ SK
    generalize grow (wr.drewN nq) osq = w2 at S2 ⊢
    clear nq osq
    clear hlv
    go_wp2
    go_roundw
    case rel => exact ⟨i, h, rfl, rfl, hi, by omega, by omega, hL, hR2, S2⟩
    case measure => simp [intOf]; omega
  ·obtain rfl : i = j := by omega
   have hltz : ¬ (i : Int) < (i : Int) := by omega
   have hsrt := hid (show SrtF (ltOf cf) a (m + 1) (rotF (fun k => d[k]!) i m (m + 1)) from srt_dn hO hi hj HU.out hL.out hR.out)
   have hrt0 := hid (fun k => (show d[k]! = rotF (fun k => d[k]!) m m (m + 1) k from by rw [rot_dn0]))
   clear hL hR e1 e2
   go_wp2
   go_loopw [17] (fun s17 wr => ∃ (k : Nat) (dk : Array α), s17 = .int .i64 (k : Int) ∧ i ≤ k ∧ k ≤ m ∧ dk.size = d.size ∧ Hid (PermIn a b d dk) ∧ Hid (∀ x, dk[x]! = rotF (fun k => d[k]!) k m (m + 1) x) ∧ Hid (SW enc w0 blk off dk wr)) (fun s17 _ => (intOf s17).toNat)
   case atStart => exact ⟨m, d, rfl, hj, Nat.le_refl _, rfl, permIn_refl _ _ _, hrt0, SK⟩
   case round =>
    clear SK hrt0
    obtain ⟨k, dk, rfl, hk1, hk2, hk, hP, hF, SK⟩ := hrel
    by_cases hki : i < k
    ·have hkz : (i : Int) < (k : Int) := by omega
     obtain ⟨k1, hk1e⟩ : ∃ z, z + 1 = k := ⟨k - 1, by omega⟩
     have e3 : IntKind.i64.wrap ((k : Int) - 1) = (k1 : Int) := by rw [IntKind.wrap_i64]; omega
     have bk : (k : Int) < (N : Int) := by omega
     have bk1 : (k1 : Int) < (N : Int) := by omega
     have hkd : k < dk.size := by omega
     have hkd1 : k1 < dk.size := by omega
     have hP2 := hid (permIn_trans _ _ _ a b hP.out (swp_permIn dk a b k k1 (by omega) (by omega) (by omega) (by omega) (by omega)))
     have hF2 := hid fun x => (swp_F hF.out (i := k) (j := k1) hkd hkd1 x).trans (show _ = rotF (fun k => d[k]!) k1 m (m + 1) x from by rw [← hk1e, rot_dn _ (by omega)])
     have hks : (swp dk k k1).size = d.size := by rw [size_swp]; exact hk
     have hk1b : i ≤ k1 := by omega
     have hk1a : k1 ≤ m := by omega
     have hk1m : k1 < k := by omega
     clear hP hF hk1e
     go_upto_region 23 with fail
     obtain ⟨x_, hx_⟩ : ∃ x, x = dk[k]! := ⟨_, rfl⟩
     obtain ⟨y_, hy_⟩ : ∃ x, x = dk[k1]! := ⟨_, rfl⟩
     have S3 : Hid (SW enc w0 blk off (Go.Sort.swp dk k k1) ((wr.setCell ⟨blk, off + k, none⟩ (enc y_)).setCell ⟨blk, off + k1, none⟩ (enc x_)).drew) := by rw [hx_, hy_]; exact SK.out.swapped R k k1 (by omega) (by omega)
     have ca_ := SK.out.c1 R (by omega) k (by omega)
     have cb_ := SK.out.c1 R (by omega) k1 (by omega)
     have fa_ := SK.out.f1 R (by omega) k (by omega)
     have fb_ := SK.out.f1 R (by omega) k1 (by omega)
     obtain ⟨u_, cc_⟩ := SK.out.c2 R (by omega) k k1 (by omega) (by omega) (enc y_)
     rw [← hx_] at ca_
     rw [← hy_] at cb_
     clear hx_ hy_ SK
     go_wp2_with fail
     go_big_region_o
     clear ca_ cb_ cc_ fa_ fb_
     generalize ((wr.setCell ⟨blk, off + k, none⟩ (enc y_)).setCell ⟨blk, off + k1, none⟩ (enc x_)).drew = w3 at S3 ⊢
     go_wp2
     go_roundw
     case rel => exact ⟨k1, swp dk k k1, rfl, hk1b, hk1a, hks, hP2, hF2, S3⟩
     case measure => simp [intOf]; exact hk1m
    ·obtain rfl : k = i := by omega
     have hkz : ¬ (k : Int) < (k : Int) := by omega
     go_wp2
     (try simp only [Exit.inBlock, Exit.then])
     refine bodyPost_ret (results_none rfl _ _ _) rfl ?_
     exact ⟨rfl, dk, hk, hP.out, fun x y hx hxy hy => by rw [hF.out, hF.out]; exact hsrt.out x y hx hxy (by have := hmb.out; omega), SK.out⟩
end
end Go.Proofs.Ytjdgjhaggpahkaa
