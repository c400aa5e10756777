/- Reading order: the stable sort's merging in place, whole. Conditions: none beyond the sizes. -/
import Derived.Test.YtjdgjhaggpahkaaZSs3
set_option linter.unusedVariables false
set_option linter.unusedSimpArgs false
namespace Go.Proofs.Ytjdgjhaggpahkaa
open Go.RowKit Go.Deep Go.Shelf Go.Lib Go.Sort
set_option linter.unusedSectionVars false
section
variable {α : Type} [Inhabited α] {lt : α → α → Bool}
theorem rot_triv (f : Nat → α) {s m e : Nat} (h1 : s ≤ m) (h2 : m ≤ e) (h : s = m ∨ e = m) : rotF f s m e = f := by
 funext k
 unfold rotF
 (repeat' split) <;> first | rfl | (exfalso; omega) | (congr 1; omega)
theorem srt_of {d1 : Array α} {F : Nat → α} {x y : Nat} (h : ∀ k, d1[k]! = F k) (hs : SrtF lt x y F) : SortedIn lt x y d1 := fun i j h1 h2 h3 => by rw [h, h]; exact hs i j h1 h2 h3
theorem srt_pm {d1 d2 : Array α} {a mid x y : Nat} (p : PermIn a mid d1 d2) (hx : mid ≤ x) (hs : SortedIn lt x y d1) : SortedIn lt x y d2 := fun i j h1 h2 h3 => by
 rw [p.2.1 i (.inr (by omega)), p.2.1 j (.inr (by omega))]; exact hs i j h1 h2 h3
theorem symL {d1 : Array α} {F : Nat → α} {a s mid : Nat} (h : ∀ k, d1[k]! = F k) (h1 : SrtF lt a s F) (h2 : SrtF lt s mid F) (hsm : s ≤ mid) (hh : s ≤ a ∨ mid ≤ s) : SortedIn lt a mid d1 := by
 rcases hh with hh | hh
 ·exact fun i j q1 q2 q3 => srt_of h h2 i j (by omega) q2 q3
 ·exact fun i j q1 q2 q3 => srt_of h h1 i j q1 q2 (by omega)
theorem symR {d1 : Array α} {F : Nat → α} {mid e b : Nat} (h : ∀ k, d1[k]! = F k) (h1 : SrtF lt mid e F) (h2 : SrtF lt e b F) (hme : mid ≤ e) {a : Nat} (d2 : Array α) (p : PermIn a mid d1 d2) (hh : e ≤ mid ∨ b ≤ e) : SortedIn lt mid b d2 := by
 refine srt_pm p (Nat.le_refl _) ?_
 rcases hh with hh | hh
 ·exact fun i j q1 q2 q3 => srt_of h h2 i j (by omega) q2 q3
 ·exact fun i j q1 q2 q3 => srt_of h h1 i j q1 q2 (by omega)
theorem sym_fin {d d1 d2 d3 : Array α} {a mid b : Nat} (ham : a ≤ mid) (hmb : mid ≤ b) (hb : b ≤ d.size) (p1 : PermIn a b d d1) (p2 : PermIn a mid d1 d2) (s2 : SortedIn lt a mid d2) (p3 : PermIn mid b d2 d3) (s3 : SortedIn lt mid b d3)
  (cross : ∀ x y, a ≤ x → x < mid → mid ≤ y → y < b → lt d1[y]! d1[x]! = false) : d3.size = d.size ∧ PermIn a b d d3 ∧ SortedIn lt a b d3 := by
 have z1 := p1.1
 have z2 := p2.1
 have z3 := p3.1
 have c2 : ∀ y, mid ≤ y → y < b → ∀ x, a ≤ x → x < mid → lt d1[y]! d2[x]! = false := fun y hy1 hy2 =>
  permIn_all d1 d2 a mid (fun z => lt d1[y]! z = false) (by omega) p2 (fun x hx1 hx2 => cross x y hx1 hx2 hy1 hy2)
 have c3 : ∀ x, a ≤ x → x < mid → ∀ y, mid ≤ y → y < b → lt d3[y]! d2[x]! = false := fun x hx1 hx2 =>
  permIn_all d2 d3 mid b (fun z => lt z d2[x]! = false) (by omega) p3 (fun y hy1 hy2 => by rw [p2.2.1 y (.inr hy1)]; exact c2 y hy1 hy2 x hx1 hx2)
 refine ⟨by omega, ?_, ?_⟩
 ·exact permIn_trans _ _ _ a b p1 (permIn_trans _ _ _ a b (permIn_mono _ _ a mid a b (Nat.le_refl _) hmb (by omega) p2) (permIn_mono _ _ mid b a b ham (Nat.le_refl _) (by omega) p3))
 ·intro i j hi hij hj
  by_cases h1 : j < mid
  ·rw [p3.2.1 j (.inl h1), p3.2.1 i (.inl (by omega))]; exact s2 i j hi hij h1
  ·by_cases h2 : i < mid
   ·rw [p3.2.1 i (.inl h2)]; exact c3 i hi h2 j (by omega) hj
   ·exact s3 i j (by omega) hij hj
end
section
variable {α : Type} [Inhabited α] (enc : α → Value) (blk off cap : Nat) (d0 : Array α) (w0 : World) (cf : α → α → Int) (g : Nat) (cb : Array Value)
def SymOK (a m b : Nat) : Prop := ∀ (d : Array α) (w : World), d.size = d0.size → SW enc w0 blk off d w → a < m → m < b → b ≤ d.size → SortedIn (ltOf cf) a m d → SortedIn (ltOf cf) m b d →
  Calls Try.prog 52 #[.slice (some ⟨blk, off, none⟩) d0.size cap, .int .i64 (a : Int), .int .i64 (m : Int), .int .i64 (b : Int), .func (.func g) #[] cb] w fun e w' => e = .returned (.tuple #[]) ∧ ∃ d', Mrg enc (ltOf cf) w0 blk off d a b d' w'
set_option maxRecDepth 100000 in
set_option maxHeartbeats 16000000 in
theorem sym3 (hO : SWO (ltOf cf)) (eg : ∀ args w, (callFunc g args).run Try.prog w = .ok (.enter g args) w) (hcmp : CmpLays1 Try.prog g cb enc cf blk off d0.size w0) (R : Row1 enc w0 blk off d0) (hsz : d0.size < 4611686018427387904)
  (a m b : Nat) (ham : a + 1 < m) (hmb : m + 1 < b) (IH : ∀ x y z, z - x < b - a → SymOK enc blk off cap d0 w0 cf g cb x y z) : SymOK enc blk off cap d0 w0 cf g cb a m b := by
 intro d w hs S _ _ hb hU hV
 have S0 := hid S
 have HC := hid hcmp
 obtain ⟨N, hN⟩ : ∃ N, d0.size = N := ⟨_, rfl⟩
 obtain ⟨sab, hsab⟩ : ∃ z, a + b = z := ⟨_, rfl⟩
 obtain ⟨mid, hmid⟩ : ∃ z, sab / 2 = z := ⟨_, rfl⟩
 have am : a < mid := by omega
 have mb : mid < b := by omega
 have mid2 : 2 * mid ≤ a + b := by omega
 have mid3 : a + b ≤ 2 * mid + 1 := by omega
 obtain ⟨n, hn⟩ : ∃ z, mid + m = z := ⟨_, rfl⟩
 -- what is left behind the search
 have HREST := hid fun (s e : Nat) (h1 : a ≤ s) (h2 : s ≤ m) (h3 : m ≤ e) (h4 : e ≤ b) (h5 : s + (e - m) = mid) (c1 : s = a ∨ e = b ∨ ltOf cf d[e]! d[s - 1]! = false) (c2 : s = m ∨ e = m ∨ ltOf cf d[e - 1]! d[s]! = true) =>
  mrg_cut (f := fun k => d[k]!) hO h1 h2 h3 h4 h5 hU hV c1 c2
 have HROT := hid fun (s e : Nat) (W : World) (SK : SW enc w0 blk off d W) (h1 : s < m) (h2 : m < e) (h3 : e ≤ b) => rotate_s enc blk off cap d0 w0 (.func (.func g) #[] cb) R d W s m e hs SK h1 h2 (by omega) hsz
 have HIH := hid IH
 have e1 : IntKind.i64.wrap ((m : Int) - (a : Int)) = ((m - a : Nat) : Int) := by rw [IntKind.wrap_i64]; omega
 obtain ⟨ma, hma⟩ : ∃ z, m - a = z := ⟨_, rfl⟩
 rw [hma] at e1
 have n1 : ((ma : Int) == 1) = false := beq_eq_false_iff_ne.2 (by omega)
 have n2 : ¬ (ma : Int) = 1 := by omega
 have e2 : IntKind.i64.wrap ((b : Int) - (m : Int)) = ((b - m : Nat) : Int) := by rw [IntKind.wrap_i64]; omega
 obtain ⟨bm, hbm⟩ : ∃ z, b - m = z := ⟨_, rfl⟩
 rw [hbm] at e2
 have n3 : ((bm : Int) == 1) = false := beq_eq_false_iff_ne.2 (by omega)
 have n4 : ¬ (bm : Int) = 1 := by omega
 have e3 : IntKind.i64.wrap ((a : Int) + (b : Int)) = (sab : Int) := by rw [IntKind.wrap_i64]; omega
 have e4 : (sab : Int) / 2 = (mid : Int) := by omega
 have e5 : IntKind.i64.wrap ((mid : Int) + (m : Int)) = (n : Int) := by rw [IntKind.wrap_i64]; omega
 obtain ⟨p, hp⟩ : ∃ p, p + 1 = n := ⟨n - 1, by omega⟩
 have e6 : IntKind.i64.wrap ((n : Int) - 1) = (p : Int) := by rw [IntKind.wrap_i64]; omega
 have mixed : Try.prog.follows .mixedOrders = true := by kernel_rfl
 have hst := R.hO.store Try.prog
 have hcl0 := R.hO.cells
 simp only [Value.cells] at hcl0
 clear hcmp IH hma hbm hsab hmid S
 replace hU := hid hU
 replace hV := hid hV
 rw [hN] at HROT hs ⊢
 unfold SymOK at HIH
 rw [hN] at HIH
 replace hn := hid hn
 replace hp := hid hp
 go_enter Try.func52, Try.ntmps52
 by_cases hgt : mid < m
 ·have hgz : (mid : Int) < (m : Int) := by omega
  obtain ⟨lo, hlo⟩ : ∃ z, n - b = z := ⟨_, rfl⟩
  have e7 : IntKind.i64.wrap ((n : Int) - (b : Int)) = (lo : Int) := by have := hn.out; rw [IntKind.wrap_i64]; omega
  have hlo1 : a ≤ lo := by have := hn.out; omega
  have hlo2 : lo ≤ mid := by have := hn.out; omega
  have hlo3 : n ≤ lo + b := by omega
  have hlo4 : lo = a ∨ n = lo + b := by have := hn.out; omega
  have hhi4 : mid = m ∨ mid = mid := .inr rfl
  clear hlo
  go_upto_region 33 with fail
  go_loopw [20, 21] (fun s20 s21 wr => ∃ (s r : Nat), s20 = .int .i64 (s : Int) ∧ s21 = .int .i64 (r : Int) ∧ lo ≤ s ∧ s ≤ r ∧ r ≤ mid ∧ Hid (s = lo ∨ ltOf cf d[p - (s - 1)]! d[s - 1]! = false) ∧ Hid (r = mid ∨ ltOf cf d[p - r]! d[r]! = true) ∧ Hid (SW enc w0 blk off d wr)) (fun s20 s21 _ => (intOf s21).toNat - (intOf s20).toNat)
  case atStart => exact ⟨lo, mid, rfl, rfl, Nat.le_refl _, by omega, Nat.le_refl _, .inl rfl, .inl rfl, S0⟩
  case round =>
   clear S0
   obtain ⟨s, r, rfl, rfl, hi1, hij, hj1, hL, hR, SK⟩ := hrel
   by_cases hlt : s < r
   ·have hltz : (s : Int) < (r : Int) := by omega
    have e8 : IntKind.i64.wrap ((s : Int) + (r : Int)) = ((s + r : Nat) : Int) := by rw [IntKind.wrap_i64]; omega
    obtain ⟨sm, hsm⟩ : ∃ z, s + r = z := ⟨_, rfl⟩
    rw [hsm] at e8
    obtain ⟨c, hh⟩ : ∃ z, sm / 2 = z := ⟨_, rfl⟩
    have e9 : (sm : Int) / 2 = (c : Int) := by omega
    have h1 : s ≤ c := by omega
    have h2 : c < r := by omega
    obtain ⟨q, hq⟩ : ∃ z, p - c = z := ⟨_, rfl⟩
    have e10 : IntKind.i64.wrap ((p : Int) - (c : Int)) = (q : Int) := by have := hn.out; have := hp.out; rw [IntKind.wrap_i64]; omega
    have hqd : q < d.size := by have := hn.out; have := hp.out; omega
    have hcd : c < d.size := by omega
    have b1 : (c : Int) < (N : Int) := by omega
    have b2 : (q : Int) < (N : Int) := by omega
    clear hsm hh
    replace hq := hid hq
    go_upto_region 35 with fail
    cases hlv : ltOf cf d[q]! d[c]! with
    | false =>
     have hL2 := hid (show c + 1 = lo ∨ ltOf cf d[p - (c + 1 - 1)]! d[c + 1 - 1]! = false from .inr (by rw [Nat.add_sub_cancel, hq.out]; exact hlv))
     obtain ⟨x_, hx_⟩ : ∃ x, x = d[q]! := ⟨_, rfl⟩
     obtain ⟨y_, hy_⟩ : ∃ x, x = d[c]! := ⟨_, rfl⟩
     have la_ := SK.out.cl R (by omega) q (by omega)
     have lb_ := SK.out.cl R (by omega) c (by omega)
     rw [← hx_] at la_
     rw [← hy_] at lb_
     have hc_ := SK.out.cmp HC.out (by omega) x_ y_
     have hv_ := ltOf_false (cf := cf) (x := x_) (y := y_) (by rw [hx_, hy_]; exact hlv)
     have hd_ : decide (cf x_ y_ < 0) = false := by rw [hx_, hy_]; exact hlv
     clear hx_ hy_
     go_wp2_with fail
     go_quiet_grown (first | (go_at_fn g; refine Calls.grown_of (hc_ _ _)))
     have S2 : Hid (SW enc w0 blk off d (grow (wr.drewN nq) osq)) := SK.out.grown nq osq
     clear la_ lb_ hc_ SK
     generalize grow (wr.drewN nq) osq = w2 at S2 ⊢
     clear nq osq
     clear hlv
     go_wp2
     go_roundw
     case rel => exact ⟨c + 1, r, by go_num, rfl, by omega, by omega, hj1, hL2, hR, S2⟩
     case measure => simp [intOf]; omega
    | true =>
     have hR2 := hid (show c = mid ∨ ltOf cf d[p - c]! d[c]! = true from .inr (by rw [hq.out]; exact hlv))
     obtain ⟨x_, hx_⟩ : ∃ x, x = d[q]! := ⟨_, rfl⟩
     obtain ⟨y_, hy_⟩ : ∃ x, x = d[c]! := ⟨_, rfl⟩
     have la_ := SK.out.cl R (by omega) q (by omega)
     have lb_ := SK.out.cl R (by omega) c (by omega)
     rw [← hx_] at la_
     rw [← hy_] at lb_
     have hc_ := SK.out.cmp HC.out (by omega) x_ y_
     have hv_ := ltOf_true (cf := cf) (x := x_) (y := y_) (by rw [hx_, hy_]; exact hlv)
     have hd_ : decide (cf x_ y_ < 0) = true := by rw [hx_, hy_]; exact hlv
     clear hx_ hy_
     go_wp2_with fail
     go_quiet_grown (first | (go_at_fn g; refine Calls.grown_of (hc_ _ _)))
     have S2 : Hid (SW enc w0 blk off d (grow (wr.drewN nq) osq)) := SK.out.grown nq osq
     clear la_ lb_ hc_ SK
     generalize grow (wr.drewN nq) osq = w2 at S2 ⊢
     clear nq osq
     clear hlv
     go_wp2
     go_roundw
     case rel => exact ⟨s, c, rfl, rfl, hi1, by omega, by omega, hL, hR2, S2⟩
     case measure => simp [intOf]; omega
   ·obtain rfl : s = r := by omega
    have hltz : ¬ (s : Int) < (s : Int) := by omega
    obtain ⟨e, he⟩ : ∃ z, n - s = z := ⟨_, rfl⟩
    have e8 : IntKind.i64.wrap ((n : Int) - (s : Int)) = (e : Int) := by have := hn.out; rw [IntKind.wrap_i64]; omega
    have x1 : a ≤ s := by omega
    have x2 : s ≤ m := by omega
    have x3 : m ≤ e := by have := hn.out; omega
    have x4 : e ≤ b := by omega
    have x5 : s + (e - m) = mid := by have := hn.out; omega
    have x6 : s ≤ mid := by omega
    have x7 : mid ≤ e := by omega
    have c1 : s = a ∨ e = b ∨ ltOf cf d[e]! d[s - 1]! = false := by
     by_cases hsl : s = lo
     ·rcases hlo4 with h | h
      ·exact .inl (by omega)
      ·exact .inr (.inl (by omega))
     ·rcases hL.out with h | h
      ·exact absurd h hsl
      ·refine .inr (.inr ?_)
       have : p - (s - 1) = e := by have := hp.out; omega
       rw [this] at h; exact h
    have c2 : s = m ∨ e = m ∨ ltOf cf d[e - 1]! d[s]! = true := by
     rcases hR.out with h | h
     ·rcases hhi4 with h' | h'
      ·exact .inl (by omega)
      ·exact .inr (.inl (by have := hn.out; omega))
     ·refine .inr (.inr ?_)
      have : p - s = e - 1 := by have := hp.out; have := hn.out; omega
      rw [this] at h; exact h
    have KK := hid (HREST.out s e x1 x2 x3 x4 x5 c1 c2)
    replace he := hid he
    clear c1 c2 hL hR HREST
    by_cases hr1 : s < m
    ·have hr1z : (s : Int) < (m : Int) := by omega
     by_cases hr2 : m < e
     ·have hr2z : (m : Int) < (e : Int) := by omega
      have hC1 := hid (HROT.out s e wr SK.out hr1 hr2 x4)
      go_wp2_with fail
      refine hC1.out.mono ?_
      rintro e_ w1 ⟨rfl, d1, ho⟩
      have hP1 := hid (permIn_mono _ _ s e a b x1 x4 hb ho.pm)
      have hF1 := hid ho.at_
      have SW1 := hid ho.sw
      clear hC1 ho
      have hz1 : d1.size = d.size := hP1.out.1
      have hcutL := hid (symL (lt := ltOf cf) hF1.out KK.out.1 KK.out.2.1 (by omega))
      have hcutR := hid (symR (lt := ltOf cf) (a := a) hF1.out KK.out.2.2.1 KK.out.2.2.2.1 (by omega))
      have HIHL := hid fun (W : World) (SWd : SW enc w0 blk off d1 W) (q1 : a < s) (q2 : s < mid) => HIH.out a s mid (by omega) d1 W (by omega) SWd q1 q2 (by omega) (srt_of hF1.out KK.out.1) (srt_of hF1.out KK.out.2.1)
      have HIHR := hid fun (d2 : Array α) (W : World) (P2 : PermIn a mid d1 d2) (SWd : SW enc w0 blk off d2 W) (q1 : mid < e) (q2 : e < b) => HIH.out mid e b (by omega) d2 W (by have := P2.1; omega) SWd q1 q2 (by have := P2.1; omega) (srt_pm P2 (Nat.le_refl _) (srt_of hF1.out KK.out.2.2.1)) (srt_pm P2 (by omega) (srt_of hF1.out KK.out.2.2.2.1))
      have hend := hid fun (d2 d3 : Array α) (P2 : PermIn a mid d1 d2) (S2 : SortedIn (ltOf cf) a mid d2) (P3 : PermIn mid b d2 d3) (S3 : SortedIn (ltOf cf) mid b d3) => sym_fin (by omega) (by omega) hb hP1.out P2 S2 P3 S3 (fun x y x1 x2 y1 y2 => by rw [hF1.out, hF1.out]; exact KK.out.2.2.2.2 x y x1 x2 y1 y2)
      clear KK hF1 hP1 HIH HROT
      by_cases hl1 : a < s
      ·have hl1z : (a : Int) < (s : Int) := by omega
       by_cases hl2 : s < mid
       ·have hl2z : (s : Int) < (mid : Int) := by omega
        have hC2 := hid (HIHL.out w1 SW1.out hl1 hl2)
        go_wp2_with fail
        refine hC2.out.mono ?_
        rintro e_ w3 ⟨rfl, d2, hM2⟩
        have hP2 := hid hM2.pm
        have hS2 := hid hM2.srt
        have hW2 := hid hM2.sw
        clear hC2 hM2
        by_cases hr1 : mid < e
        ·have hr1z : (mid : Int) < (e : Int) := by omega
         by_cases hr2 : e < b
         ·have hr2z : (e : Int) < (b : Int) := by omega
          have hC3 := hid (HIHR.out d2 w3 hP2.out hW2.out hr1 hr2)
          go_wp2_with fail
          refine hC3.out.mono ?_
          rintro e_ w4 ⟨rfl, d3, hM3⟩
          have hP3 := hid hM3.pm
          have hS3 := hid hM3.srt
          have hW3 := hid hM3.sw
          clear hC3 hM3
          have hfin := hid (hend.out d2 d3 hP2.out hS2.out hP3.out hS3.out)
          clear hend HIHL HIHR hcutL hcutR
          (try clear HLs)
          (try clear HRs)
          go_wp2
          go_end0
          exact ⟨rfl, d3, (by first | exact hfin.out.1 | rfl), hfin.out.2.1, hfin.out.2.2, hW3.out⟩
         ·have hr2z : ¬ (e : Int) < (b : Int) := by omega
          have hS3 := hid (hcutR.out d2 hP2.out (by omega))
          have hfin := hid (hend.out d2 d2 hP2.out hS2.out (permIn_refl _ _ _) hS3.out)
          clear hend HIHL HIHR hcutL hcutR
          (try clear HLs)
          (try clear HRs)
          go_wp2
          go_end0
          exact ⟨rfl, d2, (by first | exact hfin.out.1 | rfl), hfin.out.2.1, hfin.out.2.2, hW2.out⟩
        ·have hr1z : ¬ (mid : Int) < (e : Int) := by omega
         have hS3 := hid (hcutR.out d2 hP2.out (by omega))
         have hfin := hid (hend.out d2 d2 hP2.out hS2.out (permIn_refl _ _ _) hS3.out)
         clear hend HIHL HIHR hcutL hcutR
         (try clear HLs)
         (try clear HRs)
         go_wp2
         go_end0
         exact ⟨rfl, d2, (by first | exact hfin.out.1 | rfl), hfin.out.2.1, hfin.out.2.2, hW2.out⟩
       ·have hl2z : ¬ (s : Int) < (mid : Int) := by omega
        have hS2 := hid (hcutL.out (by omega))
        have hP2 := hid (permIn_refl d1 a mid)
        by_cases hr1 : mid < e
        ·have hr1z : (mid : Int) < (e : Int) := by omega
         by_cases hr2 : e < b
         ·have hr2z : (e : Int) < (b : Int) := by omega
          have hC3 := hid (HIHR.out d1 w1 hP2.out SW1.out hr1 hr2)
          go_wp2_with fail
          refine hC3.out.mono ?_
          rintro e_ w4 ⟨rfl, d3, hM3⟩
          have hP3 := hid hM3.pm
          have hS3 := hid hM3.srt
          have hW3 := hid hM3.sw
          clear hC3 hM3
          have hfin := hid (hend.out d1 d3 hP2.out hS2.out hP3.out hS3.out)
          clear hend HIHL HIHR hcutL hcutR
          (try clear HLs)
          (try clear HRs)
          go_wp2
          go_end0
          exact ⟨rfl, d3, (by first | exact hfin.out.1 | rfl), hfin.out.2.1, hfin.out.2.2, hW3.out⟩
         ·have hr2z : ¬ (e : Int) < (b : Int) := by omega
          have hS3 := hid (hcutR.out d1 hP2.out (by omega))
          have hfin := hid (hend.out d1 d1 hP2.out hS2.out (permIn_refl _ _ _) hS3.out)
          clear hend HIHL HIHR hcutL hcutR
          (try clear HLs)
          (try clear HRs)
          go_wp2
          go_end0
          exact ⟨rfl, d1, (by first | exact hfin.out.1 | rfl), hfin.out.2.1, hfin.out.2.2, SW1.out⟩
        ·have hr1z : ¬ (mid : Int) < (e : Int) := by omega
         have hS3 := hid (hcutR.out d1 hP2.out (by omega))
         have hfin := hid (hend.out d1 d1 hP2.out hS2.out (permIn_refl _ _ _) hS3.out)
         clear hend HIHL HIHR hcutL hcutR
         (try clear HLs)
         (try clear HRs)
         go_wp2
         go_end0
         exact ⟨rfl, d1, (by first | exact hfin.out.1 | rfl), hfin.out.2.1, hfin.out.2.2, SW1.out⟩
      ·have hl1z : ¬ (a : Int) < (s : Int) := by omega
       have hS2 := hid (hcutL.out (by omega))
       have hP2 := hid (permIn_refl d1 a mid)
       by_cases hr1 : mid < e
       ·have hr1z : (mid : Int) < (e : Int) := by omega
        by_cases hr2 : e < b
        ·have hr2z : (e : Int) < (b : Int) := by omega
         have hC3 := hid (HIHR.out d1 w1 hP2.out SW1.out hr1 hr2)
         go_wp2_with fail
         refine hC3.out.mono ?_
         rintro e_ w4 ⟨rfl, d3, hM3⟩
         have hP3 := hid hM3.pm
         have hS3 := hid hM3.srt
         have hW3 := hid hM3.sw
         clear hC3 hM3
         have hfin := hid (hend.out d1 d3 hP2.out hS2.out hP3.out hS3.out)
         clear hend HIHL HIHR hcutL hcutR
         (try clear HLs)
         (try clear HRs)
         go_wp2
         go_end0
         exact ⟨rfl, d3, (by first | exact hfin.out.1 | rfl), hfin.out.2.1, hfin.out.2.2, hW3.out⟩
        ·have hr2z : ¬ (e : Int) < (b : Int) := by omega
         have hS3 := hid (hcutR.out d1 hP2.out (by omega))
         have hfin := hid (hend.out d1 d1 hP2.out hS2.out (permIn_refl _ _ _) hS3.out)
         clear hend HIHL HIHR hcutL hcutR
         (try clear HLs)
         (try clear HRs)
         go_wp2
         go_end0
         exact ⟨rfl, d1, (by first | exact hfin.out.1 | rfl), hfin.out.2.1, hfin.out.2.2, SW1.out⟩
       ·have hr1z : ¬ (mid : Int) < (e : Int) := by omega
        have hS3 := hid (hcutR.out d1 hP2.out (by omega))
        have hfin := hid (hend.out d1 d1 hP2.out hS2.out (permIn_refl _ _ _) hS3.out)
        clear hend HIHL HIHR hcutL hcutR
        (try clear HLs)
        (try clear HRs)
        go_wp2
        go_end0
        exact ⟨rfl, d1, (by first | exact hfin.out.1 | rfl), hfin.out.2.1, hfin.out.2.2, SW1.out⟩
     ·have hr2z : ¬ (m : Int) < (e : Int) := by omega
      have hP1 := hid (permIn_refl d a b)
      have hF1 := hid (fun k => (show d[k]! = rotF (fun k => d[k]!) s m e k from by rw [rot_triv _ x2 x3 (.inr (by omega))]))
      have hz1 : d.size = d.size := hP1.out.1
      have hcutL := hid (symL (lt := ltOf cf) hF1.out KK.out.1 KK.out.2.1 (by omega))
      have hcutR := hid (symR (lt := ltOf cf) (a := a) hF1.out KK.out.2.2.1 KK.out.2.2.2.1 (by omega))
      have HIHL := hid fun (W : World) (SWd : SW enc w0 blk off d W) (q1 : a < s) (q2 : s < mid) => HIH.out a s mid (by omega) d W (by omega) SWd q1 q2 (by omega) (srt_of hF1.out KK.out.1) (srt_of hF1.out KK.out.2.1)
      have HIHR := hid fun (d2 : Array α) (W : World) (P2 : PermIn a mid d d2) (SWd : SW enc w0 blk off d2 W) (q1 : mid < e) (q2 : e < b) => HIH.out mid e b (by omega) d2 W (by have := P2.1; omega) SWd q1 q2 (by have := P2.1; omega) (srt_pm P2 (Nat.le_refl _) (srt_of hF1.out KK.out.2.2.1)) (srt_pm P2 (by omega) (srt_of hF1.out KK.out.2.2.2.1))
      have hend := hid fun (d2 d3 : Array α) (P2 : PermIn a mid d d2) (S2 : SortedIn (ltOf cf) a mid d2) (P3 : PermIn mid b d2 d3) (S3 : SortedIn (ltOf cf) mid b d3) => sym_fin (by omega) (by omega) hb hP1.out P2 S2 P3 S3 (fun x y x1 x2 y1 y2 => by rw [hF1.out, hF1.out]; exact KK.out.2.2.2.2 x y x1 x2 y1 y2)
      clear KK hF1 hP1 HIH HROT
      by_cases hl1 : a < s
      ·have hl1z : (a : Int) < (s : Int) := by omega
       by_cases hl2 : s < mid
       ·have hl2z : (s : Int) < (mid : Int) := by omega
        have hC2 := hid (HIHL.out wr SK.out hl1 hl2)
        go_wp2_with fail
        refine hC2.out.mono ?_
        rintro e_ w3 ⟨rfl, d2, hM2⟩
        have hP2 := hid hM2.pm
        have hS2 := hid hM2.srt
        have hW2 := hid hM2.sw
        clear hC2 hM2
        by_cases hr1 : mid < e
        ·have hr1z : (mid : Int) < (e : Int) := by omega
         by_cases hr2 : e < b
         ·have hr2z : (e : Int) < (b : Int) := by omega
          have hC3 := hid (HIHR.out d2 w3 hP2.out hW2.out hr1 hr2)
          go_wp2_with fail
          refine hC3.out.mono ?_
          rintro e_ w4 ⟨rfl, d3, hM3⟩
          have hP3 := hid hM3.pm
          have hS3 := hid hM3.srt
          have hW3 := hid hM3.sw
          clear hC3 hM3
          have hfin := hid (hend.out d2 d3 hP2.out hS2.out hP3.out hS3.out)
          clear hend HIHL HIHR hcutL hcutR
          (try clear HLs)
          (try clear HRs)
          go_wp2
          go_end0
          exact ⟨rfl, d3, (by first | exact hfin.out.1 | rfl), hfin.out.2.1, hfin.out.2.2, hW3.out⟩
         ·have hr2z : ¬ (e : Int) < (b : Int) := by omega
          have hS3 := hid (hcutR.out d2 hP2.out (by omega))
          have hfin := hid (hend.out d2 d2 hP2.out hS2.out (permIn_refl _ _ _) hS3.out)
          clear hend HIHL HIHR hcutL hcutR
          (try clear HLs)
          (try clear HRs)
          go_wp2
          go_end0
          exact ⟨rfl, d2, (by first | exact hfin.out.1 | rfl), hfin.out.2.1, hfin.out.2.2, hW2.out⟩
        ·have hr1z : ¬ (mid : Int) < (e : Int) := by omega
         have hS3 := hid (hcutR.out d2 hP2.out (by omega))
         have hfin := hid (hend.out d2 d2 hP2.out hS2.out (permIn_refl _ _ _) hS3.out)
         clear hend HIHL HIHR hcutL hcutR
         (try clear HLs)
         (try clear HRs)
         go_wp2
         go_end0
         exact ⟨rfl, d2, (by first | exact hfin.out.1 | rfl), hfin.out.2.1, hfin.out.2.2, hW2.out⟩
       ·have hl2z : ¬ (s : Int) < (mid : Int) := by omega
        have hS2 := hid (hcutL.out (by omega))
        have hP2 := hid (permIn_refl d a mid)
        by_cases hr1 : mid < e
        ·have hr1z : (mid : Int) < (e : Int) := by omega
         by_cases hr2 : e < b
         ·have hr2z : (e : Int) < (b : Int) := by omega
          have hC3 := hid (HIHR.out d wr hP2.out SK.out hr1 hr2)
          go_wp2_with fail
          refine hC3.out.mono ?_
          rintro e_ w4 ⟨rfl, d3, hM3⟩
          have hP3 := hid hM3.pm
          have hS3 := hid hM3.srt
          have hW3 := hid hM3.sw
          clear hC3 hM3
          have hfin := hid (hend.out d d3 hP2.out hS2.out hP3.out hS3.out)
          clear hend HIHL HIHR hcutL hcutR
          (try clear HLs)
          (try clear HRs)
          go_wp2
          go_end0
          exact ⟨rfl, d3, (by first | exact hfin.out.1 | rfl), hfin.out.2.1, hfin.out.2.2, hW3.out⟩
         ·have hr2z : ¬ (e : Int) < (b : Int) := by omega
          have hS3 := hid (hcutR.out d hP2.out (by omega))
          have hfin := hid (hend.out d d hP2.out hS2.out (permIn_refl _ _ _) hS3.out)
          clear hend HIHL HIHR hcutL hcutR
          (try clear HLs)
          (try clear HRs)
          go_wp2
          go_end0
          exact ⟨rfl, d, (by first | exact hfin.out.1 | rfl), hfin.out.2.1, hfin.out.2.2, SK.out⟩
        ·have hr1z : ¬ (mid : Int) < (e : Int) := by omega
         have hS3 := hid (hcutR.out d hP2.out (by omega))
         have hfin := hid (hend.out d d hP2.out hS2.out (permIn_refl _ _ _) hS3.out)
         clear hend HIHL HIHR hcutL hcutR
         (try clear HLs)
         (try clear HRs)
         go_wp2
         go_end0
         exact ⟨rfl, d, (by first | exact hfin.out.1 | rfl), hfin.out.2.1, hfin.out.2.2, SK.out⟩
      ·have hl1z : ¬ (a : Int) < (s : Int) := by omega
       have hS2 := hid (hcutL.out (by omega))
       have hP2 := hid (permIn_refl d a mid)
       by_cases hr1 : mid < e
       ·have hr1z : (mid : Int) < (e : Int) := by omega
        by_cases hr2 : e < b
        ·have hr2z : (e : Int) < (b : Int) := by omega
         have hC3 := hid (HIHR.out d wr hP2.out SK.out hr1 hr2)
         go_wp2_with fail
         refine hC3.out.mono ?_
         rintro e_ w4 ⟨rfl, d3, hM3⟩
         have hP3 := hid hM3.pm
         have hS3 := hid hM3.srt
         have hW3 := hid hM3.sw
         clear hC3 hM3
         have hfin := hid (hend.out d d3 hP2.out hS2.out hP3.out hS3.out)
         clear hend HIHL HIHR hcutL hcutR
         (try clear HLs)
         (try clear HRs)
         go_wp2
         go_end0
         exact ⟨rfl, d3, (by first | exact hfin.out.1 | rfl), hfin.out.2.1, hfin.out.2.2, hW3.out⟩
        ·have hr2z : ¬ (e : Int) < (b : Int) := by omega
         have hS3 := hid (hcutR.out d hP2.out (by omega))
         have hfin := hid (hend.out d d hP2.out hS2.out (permIn_refl _ _ _) hS3.out)
         clear hend HIHL HIHR hcutL hcutR
         (try clear HLs)
         (try clear HRs)
         go_wp2
         go_end0
         exact ⟨rfl, d, (by first | exact hfin.out.1 | rfl), hfin.out.2.1, hfin.out.2.2, SK.out⟩
       ·have hr1z : ¬ (mid : Int) < (e : Int) := by omega
        have hS3 := hid (hcutR.out d hP2.out (by omega))
        have hfin := hid (hend.out d d hP2.out hS2.out (permIn_refl _ _ _) hS3.out)
        clear hend HIHL HIHR hcutL hcutR
        (try clear HLs)
        (try clear HRs)
        go_wp2
        go_end0
        exact ⟨rfl, d, (by first | exact hfin.out.1 | rfl), hfin.out.2.1, hfin.out.2.2, SK.out⟩
    ·have hr1z : ¬ (s : Int) < (m : Int) := by omega
     have hP1 := hid (permIn_refl d a b)
     have hF1 := hid (fun k => (show d[k]! = rotF (fun k => d[k]!) s m e k from by rw [rot_triv _ x2 x3 (.inl (by omega))]))
     have hz1 : d.size = d.size := hP1.out.1
     have hcutL := hid (symL (lt := ltOf cf) hF1.out KK.out.1 KK.out.2.1 (by omega))
     have hcutR := hid (symR (lt := ltOf cf) (a := a) hF1.out KK.out.2.2.1 KK.out.2.2.2.1 (by omega))
     have HIHL := hid fun (W : World) (SWd : SW enc w0 blk off d W) (q1 : a < s) (q2 : s < mid) => HIH.out a s mid (by omega) d W (by omega) SWd q1 q2 (by omega) (srt_of hF1.out KK.out.1) (srt_of hF1.out KK.out.2.1)
     have HIHR := hid fun (d2 : Array α) (W : World) (P2 : PermIn a mid d d2) (SWd : SW enc w0 blk off d2 W) (q1 : mid < e) (q2 : e < b) => HIH.out mid e b (by omega) d2 W (by have := P2.1; omega) SWd q1 q2 (by have := P2.1; omega) (srt_pm P2 (Nat.le_refl _) (srt_of hF1.out KK.out.2.2.1)) (srt_pm P2 (by omega) (srt_of hF1.out KK.out.2.2.2.1))
     have hend := hid fun (d2 d3 : Array α) (P2 : PermIn a mid d d2) (S2 : SortedIn (ltOf cf) a mid d2) (P3 : PermIn mid b d2 d3) (S3 : SortedIn (ltOf cf) mid b d3) => sym_fin (by omega) (by omega) hb hP1.out P2 S2 P3 S3 (fun x y x1 x2 y1 y2 => by rw [hF1.out, hF1.out]; exact KK.out.2.2.2.2 x y x1 x2 y1 y2)
     clear KK hF1 hP1 HIH HROT
     by_cases hl1 : a < s
     ·have hl1z : (a : Int) < (s : Int) := by omega
      by_cases hl2 : s < mid
      ·have hl2z : (s : Int) < (mid : Int) := by omega
       have hC2 := hid (HIHL.out wr SK.out hl1 hl2)
       go_wp2_with fail
       refine hC2.out.mono ?_
       rintro e_ w3 ⟨rfl, d2, hM2⟩
       have hP2 := hid hM2.pm
       have hS2 := hid hM2.srt
       have hW2 := hid hM2.sw
       clear hC2 hM2
       by_cases hr1 : mid < e
       ·have hr1z : (mid : Int) < (e : Int) := by omega
        by_cases hr2 : e < b
        ·have hr2z : (e : Int) < (b : Int) := by omega
         have hC3 := hid (HIHR.out d2 w3 hP2.out hW2.out hr1 hr2)
         go_wp2_with fail
         refine hC3.out.mono ?_
         rintro e_ w4 ⟨rfl, d3, hM3⟩
         have hP3 := hid hM3.pm
         have hS3 := hid hM3.srt
         have hW3 := hid hM3.sw
         clear hC3 hM3
         have hfin := hid (hend.out d2 d3 hP2.out hS2.out hP3.out hS3.out)
         clear hend HIHL HIHR hcutL hcutR
         (try clear HLs)
         (try clear HRs)
         go_wp2
         go_end0
         exact ⟨rfl, d3, (by first | exact hfin.out.1 | rfl), hfin.out.2.1, hfin.out.2.2, hW3.out⟩
        ·have hr2z : ¬ (e : Int) < (b : Int) := by omega
         have hS3 := hid (hcutR.out d2 hP2.out (by omega))
         have hfin := hid (hend.out d2 d2 hP2.out hS2.out (permIn_refl _ _ _) hS3.out)
         clear hend HIHL HIHR hcutL hcutR
         (try clear HLs)
         (try clear HRs)
         go_wp2
         go_end0
         exact ⟨rfl, d2, (by first | exact hfin.out.1 | rfl), hfin.out.2.1, hfin.out.2.2, hW2.out⟩
       ·have hr1z : ¬ (mid : Int) < (e : Int) := by omega
        have hS3 := hid (hcutR.out d2 hP2.out (by omega))
        have hfin := hid (hend.out d2 d2 hP2.out hS2.out (permIn_refl _ _ _) hS3.out)
        clear hend HIHL HIHR hcutL hcutR
        (try clear HLs)
        (try clear HRs)
        go_wp2
        go_end0
        exact ⟨rfl, d2, (by first | exact hfin.out.1 | rfl), hfin.out.2.1, hfin.out.2.2, hW2.out⟩
      ·have hl2z : ¬ (s : Int) < (mid : Int) := by omega
       have hS2 := hid (hcutL.out (by omega))
       have hP2 := hid (permIn_refl d a mid)
       by_cases hr1 : mid < e
       ·have hr1z : (mid : Int) < (e : Int) := by omega
        by_cases hr2 : e < b
        ·have hr2z : (e : Int) < (b : Int) := by omega
         have hC3 := hid (HIHR.out d wr hP2.out SK.out hr1 hr2)
         go_wp2_with fail
         refine hC3.out.mono ?_
         rintro e_ w4 ⟨rfl, d3, hM3⟩
         have hP3 := hid hM3.pm
         have hS3 := hid hM3.srt
         have hW3 := hid hM3.sw
         clear hC3 hM3
         have hfin := hid (hend.out d d3 hP2.out hS2.out hP3.out hS3.out)
         clear hend HIHL HIHR hcutL hcutR
         (try clear HLs)
         (try clear HRs)
         go_wp2
         go_end0
         exact ⟨rfl, d3, (by first | exact hfin.out.1 | rfl), hfin.out.2.1, hfin.out.2.2, hW3.out⟩
        ·have hr2z : ¬ (e : Int) < (b : Int) := by omega
         have hS3 := hid (hcutR.out d hP2.out (by omega))
         have hfin := hid (hend.out d d hP2.out hS2.out (permIn_refl _ _ _) hS3.out)
         clear hend HIHL HIHR hcutL hcutR
         (try clear HLs)
         (try clear HRs)
         go_wp2
         go_end0
         exact ⟨rfl, d, (by first | exact hfin.out.1 | rfl), hfin.out.2.1, hfin.out.2.2, SK.out⟩
       ·have hr1z : ¬ (mid : Int) < (e : Int) := by omega
        have hS3 := hid (hcutR.out d hP2.out (by omega))
        have hfin := hid (hend.out d d hP2.out hS2.out (permIn_refl _ _ _) hS3.out)
        clear hend HIHL HIHR hcutL hcutR
        (try clear HLs)
        (try clear HRs)
        go_wp2
        go_end0
        exact ⟨rfl, d, (by first | exact hfin.out.1 | rfl), hfin.out.2.1, hfin.out.2.2, SK.out⟩
     ·have hl1z : ¬ (a : Int) < (s : Int) := by omega
      have hS2 := hid (hcutL.out (by omega))
      have hP2 := hid (permIn_refl d a mid)
      by_cases hr1 : mid < e
      ·have hr1z : (mid : Int) < (e : Int) := by omega
       by_cases hr2 : e < b
       ·have hr2z : (e : Int) < (b : Int) := by omega
        have hC3 := hid (HIHR.out d wr hP2.out SK.out hr1 hr2)
        go_wp2_with fail
        refine hC3.out.mono ?_
        rintro e_ w4 ⟨rfl, d3, hM3⟩
        have hP3 := hid hM3.pm
        have hS3 := hid hM3.srt
        have hW3 := hid hM3.sw
        clear hC3 hM3
        have hfin := hid (hend.out d d3 hP2.out hS2.out hP3.out hS3.out)
        clear hend HIHL HIHR hcutL hcutR
        (try clear HLs)
        (try clear HRs)
        go_wp2
        go_end0
        exact ⟨rfl, d3, (by first | exact hfin.out.1 | rfl), hfin.out.2.1, hfin.out.2.2, hW3.out⟩
       ·have hr2z : ¬ (e : Int) < (b : Int) := by omega
        have hS3 := hid (hcutR.out d hP2.out (by omega))
        have hfin := hid (hend.out d d hP2.out hS2.out (permIn_refl _ _ _) hS3.out)
        clear hend HIHL HIHR hcutL hcutR
        (try clear HLs)
        (try clear HRs)
        go_wp2
        go_end0
        exact ⟨rfl, d, (by first | exact hfin.out.1 | rfl), hfin.out.2.1, hfin.out.2.2, SK.out⟩
      ·have hr1z : ¬ (mid : Int) < (e : Int) := by omega
       have hS3 := hid (hcutR.out d hP2.out (by omega))
       have hfin := hid (hend.out d d hP2.out hS2.out (permIn_refl _ _ _) hS3.out)
       clear hend HIHL HIHR hcutL hcutR
       (try clear HLs)
       (try clear HRs)
       go_wp2
       go_end0
       exact ⟨rfl, d, (by first | exact hfin.out.1 | rfl), hfin.out.2.1, hfin.out.2.2, SK.out⟩
 ·have hgz : ¬ (mid : Int) < (m : Int) := by omega
  have hlo1 : a ≤ a := Nat.le_refl _
  have hlo3 : n ≤ a + b := by have := hn.out; omega
  have hlo4 : a = a ∨ n = a + b := .inl rfl
  have hhi4 : m = m ∨ m = mid := .inl rfl
  go_upto_region 33 with fail
  go_loopw [20, 21] (fun s20 s21 wr => ∃ (s r : Nat), s20 = .int .i64 (s : Int) ∧ s21 = .int .i64 (r : Int) ∧ a ≤ s ∧ s ≤ r ∧ r ≤ m ∧ Hid (s = a ∨ ltOf cf d[p - (s - 1)]! d[s - 1]! = false) ∧ Hid (r = m ∨ ltOf cf d[p - r]! d[r]! = true) ∧ Hid (SW enc w0 blk off d wr)) (fun s20 s21 _ => (intOf s21).toNat - (intOf s20).toNat)
  case atStart => exact ⟨a, m, rfl, rfl, Nat.le_refl _, by omega, Nat.le_refl _, .inl rfl, .inl rfl, S0⟩
  case round =>
   clear S0
   obtain ⟨s, r, rfl, rfl, hi1, hij, hj1, hL, hR, SK⟩ := hrel
   by_cases hlt : s < r
   ·have hltz : (s : Int) < (r : Int) := by omega
    have e8 : IntKind.i64.wrap ((s : Int) + (r : Int)) = ((s + r : Nat) : Int) := by rw [IntKind.wrap_i64]; omega
    obtain ⟨sm, hsm⟩ : ∃ z, s + r = z := ⟨_, rfl⟩
    rw [hsm] at e8
    obtain ⟨c, hh⟩ : ∃ z, sm / 2 = z := ⟨_, rfl⟩
    have e9 : (sm : Int) / 2 = (c : Int) := by omega
    have h1 : s ≤ c := by omega
    have h2 : c < r := by omega
    obtain ⟨q, hq⟩ : ∃ z, p - c = z := ⟨_, rfl⟩
    have e10 : IntKind.i64.wrap ((p : Int) - (c : Int)) = (q : Int) := by have := hn.out; have := hp.out; rw [IntKind.wrap_i64]; omega
    have hqd : q < d.size := by have := hn.out; have := hp.out; omega
    have hcd : c < d.size := by omega
    have b1 : (c : Int) < (N : Int) := by omega
    have b2 : (q : Int) < (N : Int) := by omega
    clear hsm hh
    replace hq := hid hq
    go_upto_region 35 with fail
    cases hlv : ltOf cf d[q]! d[c]! with
    | false =>
     have hL2 := hid (show c + 1 = a ∨ ltOf cf d[p - (c + 1 - 1)]! d[c + 1 - 1]! = false from .inr (by rw [Nat.add_sub_cancel, hq.out]; exact hlv))
     obtain ⟨x_, hx_⟩ : ∃ x, x = d[q]! := ⟨_, rfl⟩
     obtain ⟨y_, hy_⟩ : ∃ x, x = d[c]! := ⟨_, rfl⟩
     have la_ := SK.out.cl R (by omega) q (by omega)
     have lb_ := SK.out.cl R (by omega) c (by omega)
     rw [← hx_] at la_
     rw [← hy_] at lb_
     have hc_ := SK.out.cmp HC.out (by omega) x_ y_
     have hv_ := ltOf_false (cf := cf) (x := x_) (y := y_) (by rw [hx_, hy_]; exact hlv)
     have hd_ : decide (cf x_ y_ < 0) = false := by rw [hx_, hy_]; exact hlv
     clear hx_ hy_
     go_wp2_with fail
     go_quiet_grown (first | (go_at_fn g; refine Calls.grown_of (hc_ _ _)))
     have S2 : Hid (SW enc w0 blk off d (grow (wr.drewN nq) osq)) := SK.out.grown nq osq
     clear la_ lb_ hc_ SK
     generalize grow (wr.drewN nq) osq = w2 at S2 ⊢
     clear nq osq
     clear hlv
     go_wp2
     go_roundw
     case rel => exact ⟨c + 1, r, by go_num, rfl, by omega, by omega, hj1, hL2, hR, S2⟩
     case measure => simp [intOf]; omega
    | true =>
     have hR2 := hid (show c = m ∨ ltOf cf d[p - c]! d[c]! = true from .inr (by rw [hq.out]; exact hlv))
     obtain ⟨x_, hx_⟩ : ∃ x, x = d[q]! := ⟨_, rfl⟩
     obtain ⟨y_, hy_⟩ : ∃ x, x = d[c]! := ⟨_, rfl⟩
     have la_ := SK.out.cl R (by omega) q (by omega)
     have lb_ := SK.out.cl R (by omega) c (by omega)
     rw [← hx_] at la_
     rw [← hy_] at lb_
     have hc_ := SK.out.cmp HC.out (by omega) x_ y_
     have hv_ := ltOf_true (cf := cf) (x := x_) (y := y_) (by rw [hx_, hy_]; exact hlv)
     have hd_ : decide (cf x_ y_ < 0) = true := by rw [hx_, hy_]; exact hlv
     clear hx_ hy_
     go_wp2_with fail
     go_quiet_grown (first | (go_at_fn g; refine Calls.grown_of (hc_ _ _)))
     have S2 : Hid (SW enc w0 blk off d (grow (wr.drewN nq) osq)) := SK.out.grown nq osq
     clear la_ lb_ hc_ SK
     generalize grow (wr.drewN nq) osq = w2 at S2 ⊢
     clear nq osq
     clear hlv
     go_wp2
     go_roundw
     case rel => exact ⟨s, c, rfl, rfl, hi1, by omega, by omega, hL, hR2, S2⟩
     case measure => simp [intOf]; omega
   ·obtain rfl : s = r := by omega
    have hltz : ¬ (s : Int) < (s : Int) := by omega
    obtain ⟨e, he⟩ : ∃ z, n - s = z := ⟨_, rfl⟩
    have e8 : IntKind.i64.wrap ((n : Int) - (s : Int)) = (e : Int) := by have := hn.out; rw [IntKind.wrap_i64]; omega
    have x1 : a ≤ s := by omega
    have x2 : s ≤ m := by omega
    have x3 : m ≤ e := by have := hn.out; omega
    have x4 : e ≤ b := by omega
    have x5 : s + (e - m) = mid := by have := hn.out; omega
    have x6 : s ≤ mid := by omega
    have x7 : mid ≤ e := by omega
    have c1 : s = a ∨ e = b ∨ ltOf cf d[e]! d[s - 1]! = false := by
     by_cases hsl : s = a
     ·rcases hlo4 with h | h
      ·exact .inl (by omega)
      ·exact .inr (.inl (by omega))
     ·rcases hL.out with h | h
      ·exact absurd h hsl
      ·refine .inr (.inr ?_)
       have : p - (s - 1) = e := by have := hp.out; omega
       rw [this] at h; exact h
    have c2 : s = m ∨ e = m ∨ ltOf cf d[e - 1]! d[s]! = true := by
     rcases hR.out with h | h
     ·rcases hhi4 with h' | h'
      ·exact .inl (by omega)
      ·exact .inr (.inl (by have := hn.out; omega))
     ·refine .inr (.inr ?_)
      have : p - s = e - 1 := by have := hp.out; have := hn.out; omega
      rw [this] at h; exact h
    have KK := hid (HREST.out s e x1 x2 x3 x4 x5 c1 c2)
    replace he := hid he
    clear c1 c2 hL hR HREST
    by_cases hr1 : s < m
    ·have hr1z : (s : Int) < (m : Int) := by omega
     by_cases hr2 : m < e
     ·have hr2z : (m : Int) < (e : Int) := by omega
      have hC1 := hid (HROT.out s e wr SK.out hr1 hr2 x4)
      go_wp2_with fail
      refine hC1.out.mono ?_
      rintro e_ w1 ⟨rfl, d1, ho⟩
      have hP1 := hid (permIn_mono _ _ s e a b x1 x4 hb ho.pm)
      have hF1 := hid ho.at_
      have SW1 := hid ho.sw
      clear hC1 ho
      have hz1 : d1.size = d.size := hP1.out.1
      have hcutL := hid (symL (lt := ltOf cf) hF1.out KK.out.1 KK.out.2.1 (by omega))
      have hcutR := hid (symR (lt := ltOf cf) (a := a) hF1.out KK.out.2.2.1 KK.out.2.2.2.1 (by omega))
      have HIHL := hid fun (W : World) (SWd : SW enc w0 blk off d1 W) (q1 : a < s) (q2 : s < mid) => HIH.out a s mid (by omega) d1 W (by omega) SWd q1 q2 (by omega) (srt_of hF1.out KK.out.1) (srt_of hF1.out KK.out.2.1)
      have HIHR := hid fun (d2 : Array α) (W : World) (P2 : PermIn a mid d1 d2) (SWd : SW enc w0 blk off d2 W) (q1 : mid < e) (q2 : e < b) => HIH.out mid e b (by omega) d2 W (by have := P2.1; omega) SWd q1 q2 (by have := P2.1; omega) (srt_pm P2 (Nat.le_refl _) (srt_of hF1.out KK.out.2.2.1)) (srt_pm P2 (by omega) (srt_of hF1.out KK.out.2.2.2.1))
      have hend := hid fun (d2 d3 : Array α) (P2 : PermIn a mid d1 d2) (S2 : SortedIn (ltOf cf) a mid d2) (P3 : PermIn mid b d2 d3) (S3 : SortedIn (ltOf cf) mid b d3) => sym_fin (by omega) (by omega) hb hP1.out P2 S2 P3 S3 (fun x y x1 x2 y1 y2 => by rw [hF1.out, hF1.out]; exact KK.out.2.2.2.2 x y x1 x2 y1 y2)
      clear KK hF1 hP1 HIH HROT
      by_cases hl1 : a < s
      ·have hl1z : (a : Int) < (s : Int) := by omega
       by_cases hl2 : s < mid
       ·have hl2z : (s : Int) < (mid : Int) := by omega
        have hC2 := hid (HIHL.out w1 SW1.out hl1 hl2)
        go_wp2_with fail
        refine hC2.out.mono ?_
        rintro e_ w3 ⟨rfl, d2, hM2⟩
        have hP2 := hid hM2.pm
        have hS2 := hid hM2.srt
        have hW2 := hid hM2.sw
        clear hC2 hM2
        by_cases hr1 : mid < e
        ·have hr1z : (mid : Int) < (e : Int) := by omega
         by_cases hr2 : e < b
         ·have hr2z : (e : Int) < (b : Int) := by omega
          have hC3 := hid (HIHR.out d2 w3 hP2.out hW2.out hr1 hr2)
          go_wp2_with fail
          refine hC3.out.mono ?_
          rintro e_ w4 ⟨rfl, d3, hM3⟩
          have hP3 := hid hM3.pm
          have hS3 := hid hM3.srt
          have hW3 := hid hM3.sw
          clear hC3 hM3
          have hfin := hid (hend.out d2 d3 hP2.out hS2.out hP3.out hS3.out)
          clear hend HIHL HIHR hcutL hcutR
          (try clear HLs)
          (try clear HRs)
          go_wp2
          go_end0
          exact ⟨rfl, d3, (by first | exact hfin.out.1 | rfl), hfin.out.2.1, hfin.out.2.2, hW3.out⟩
         ·have hr2z : ¬ (e : Int) < (b : Int) := by omega
          have hS3 := hid (hcutR.out d2 hP2.out (by omega))
          have hfin := hid (hend.out d2 d2 hP2.out hS2.out (permIn_refl _ _ _) hS3.out)
          clear hend HIHL HIHR hcutL hcutR
          (try clear HLs)
          (try clear HRs)
          go_wp2
          go_end0
          exact ⟨rfl, d2, (by first | exact hfin.out.1 | rfl), hfin.out.2.1, hfin.out.2.2, hW2.out⟩
        ·have hr1z : ¬ (mid : Int) < (e : Int) := by omega
         have hS3 := hid (hcutR.out d2 hP2.out (by omega))
         have hfin := hid (hend.out d2 d2 hP2.out hS2.out (permIn_refl _ _ _) hS3.out)
         clear hend HIHL HIHR hcutL hcutR
         (try clear HLs)
         (try clear HRs)
         go_wp2
         go_end0
         exact ⟨rfl, d2, (by first | exact hfin.out.1 | rfl), hfin.out.2.1, hfin.out.2.2, hW2.out⟩
       ·have hl2z : ¬ (s : Int) < (mid : Int) := by omega
        have hS2 := hid (hcutL.out (by omega))
        have hP2 := hid (permIn_refl d1 a mid)
        by_cases hr1 : mid < e
        ·have hr1z : (mid : Int) < (e : Int) := by omega
         by_cases hr2 : e < b
         ·have hr2z : (e : Int) < (b : Int) := by omega
          have hC3 := hid (HIHR.out d1 w1 hP2.out SW1.out hr1 hr2)
          go_wp2_with fail
          refine hC3.out.mono ?_
          rintro e_ w4 ⟨rfl, d3, hM3⟩
          have hP3 := hid hM3.pm
          have hS3 := hid hM3.srt
          have hW3 := hid hM3.sw
          clear hC3 hM3
          have hfin := hid (hend.out d1 d3 hP2.out hS2.out hP3.out hS3.out)
          clear hend HIHL HIHR hcutL hcutR
          (try clear HLs)
          (try clear HRs)
          go_wp2
          go_end0
          exact ⟨rfl, d3, (by first | exact hfin.out.1 | rfl), hfin.out.2.1, hfin.out.2.2, hW3.out⟩
         ·have hr2z : ¬ (e : Int) < (b : Int) := by omega
          have hS3 := hid (hcutR.out d1 hP2.out (by omega))
          have hfin := hid (hend.out d1 d1 hP2.out hS2.out (permIn_refl _ _ _) hS3.out)
          clear hend HIHL HIHR hcutL hcutR
          (try clear HLs)
          (try clear HRs)
          go_wp2
          go_end0
          exact ⟨rfl, d1, (by first | exact hfin.out.1 | rfl), hfin.out.2.1, hfin.out.2.2, SW1.out⟩
        ·have hr1z : ¬ (mid : Int) < (e : Int) := by omega
         have hS3 := hid (hcutR.out d1 hP2.out (by omega))
         have hfin := hid (hend.out d1 d1 hP2.out hS2.out (permIn_refl _ _ _) hS3.out)
         clear hend HIHL HIHR hcutL hcutR
         (try clear HLs)
         (try clear HRs)
         go_wp2
         go_end0
         exact ⟨rfl, d1, (by first | exact hfin.out.1 | rfl), hfin.out.2.1, hfin.out.2.2, SW1.out⟩
      ·have hl1z : ¬ (a : Int) < (s : Int) := by omega
       have hS2 := hid (hcutL.out (by omega))
       have hP2 := hid (permIn_refl d1 a mid)
       by_cases hr1 : mid < e
       ·have hr1z : (mid : Int) < (e : Int) := by omega
        by_cases hr2 : e < b
        ·have hr2z : (e : Int) < (b : Int) := by omega
         have hC3 := hid (HIHR.out d1 w1 hP2.out SW1.out hr1 hr2)
         go_wp2_with fail
         refine hC3.out.mono ?_
         rintro e_ w4 ⟨rfl, d3, hM3⟩
         have hP3 := hid hM3.pm
         have hS3 := hid hM3.srt
         have hW3 := hid hM3.sw
         clear hC3 hM3
         have hfin := hid (hend.out d1 d3 hP2.out hS2.out hP3.out hS3.out)
         clear hend HIHL HIHR hcutL hcutR
         (try clear HLs)
         (try clear HRs)
         go_wp2
         go_end0
         exact ⟨rfl, d3, (by first | exact hfin.out.1 | rfl), hfin.out.2.1, hfin.out.2.2, hW3.out⟩
        ·have hr2z : ¬ (e : Int) < (b : Int) := by omega
         have hS3 := hid (hcutR.out d1 hP2.out (by omega))
         have hfin := hid (hend.out d1 d1 hP2.out hS2.out (permIn_refl _ _ _) hS3.out)
         clear hend HIHL HIHR hcutL hcutR
         (try clear HLs)
         (try clear HRs)
         go_wp2
         go_end0
         exact ⟨rfl, d1, (by first | exact hfin.out.1 | rfl), hfin.out.2.1, hfin.out.2.2, SW1.out⟩
       ·have hr1z : ¬ (mid : Int) < (e : Int) := by omega
        have hS3 := hid (hcutR.out d1 hP2.out (by omega))
        have hfin := hid (hend.out d1 d1 hP2.out hS2.out (permIn_refl _ _ _) hS3.out)
        clear hend HIHL HIHR hcutL hcutR
        (try clear HLs)
        (try clear HRs)
        go_wp2
        go_end0
        exact ⟨rfl, d1, (by first | exact hfin.out.1 | rfl), hfin.out.2.1, hfin.out.2.2, SW1.out⟩
     ·have hr2z : ¬ (m : Int) < (e : Int) := by omega
      have hP1 := hid (permIn_refl d a b)
      have hF1 := hid (fun k => (show d[k]! = rotF (fun k => d[k]!) s m e k from by rw [rot_triv _ x2 x3 (.inr (by omega))]))
      have hz1 : d.size = d.size := hP1.out.1
      have hcutL := hid (symL (lt := ltOf cf) hF1.out KK.out.1 KK.out.2.1 (by omega))
      have hcutR := hid (symR (lt := ltOf cf) (a := a) hF1.out KK.out.2.2.1 KK.out.2.2.2.1 (by omega))
      have HIHL := hid fun (W : World) (SWd : SW enc w0 blk off d W) (q1 : a < s) (q2 : s < mid) => HIH.out a s mid (by omega) d W (by omega) SWd q1 q2 (by omega) (srt_of hF1.out KK.out.1) (srt_of hF1.out KK.out.2.1)
      have HIHR := hid fun (d2 : Array α) (W : World) (P2 : PermIn a mid d d2) (SWd : SW enc w0 blk off d2 W) (q1 : mid < e) (q2 : e < b) => HIH.out mid e b (by omega) d2 W (by have := P2.1; omega) SWd q1 q2 (by have := P2.1; omega) (srt_pm P2 (Nat.le_refl _) (srt_of hF1.out KK.out.2.2.1)) (srt_pm P2 (by omega) (srt_of hF1.out KK.out.2.2.2.1))
      have hend := hid fun (d2 d3 : Array α) (P2 : PermIn a mid d d2) (S2 : SortedIn (ltOf cf) a mid d2) (P3 : PermIn mid b d2 d3) (S3 : SortedIn (ltOf cf) mid b d3) => sym_fin (by omega) (by omega) hb hP1.out P2 S2 P3 S3 (fun x y x1 x2 y1 y2 => by rw [hF1.out, hF1.out]; exact KK.out.2.2.2.2 x y x1 x2 y1 y2)
      clear KK hF1 hP1 HIH HROT
      by_cases hl1 : a < s
      ·have hl1z : (a : Int) < (s : Int) := by omega
       by_cases hl2 : s < mid
       ·have hl2z : (s : Int) < (mid : Int) := by omega
        have hC2 := hid (HIHL.out wr SK.out hl1 hl2)
        go_wp2_with fail
        refine hC2.out.mono ?_
        rintro e_ w3 ⟨rfl, d2, hM2⟩
        have hP2 := hid hM2.pm
        have hS2 := hid hM2.srt
        have hW2 := hid hM2.sw
        clear hC2 hM2
        by_cases hr1 : mid < e
        ·have hr1z : (mid : Int) < (e : Int) := by omega
         by_cases hr2 : e < b
         ·have hr2z : (e : Int) < (b : Int) := by omega
          have hC3 := hid (HIHR.out d2 w3 hP2.out hW2.out hr1 hr2)
          go_wp2_with fail
          refine hC3.out.mono ?_
          rintro e_ w4 ⟨rfl, d3, hM3⟩
          have hP3 := hid hM3.pm
          have hS3 := hid hM3.srt
          have hW3 := hid hM3.sw
          clear hC3 hM3
          have hfin := hid (hend.out d2 d3 hP2.out hS2.out hP3.out hS3.out)
          clear hend HIHL HIHR hcutL hcutR
          (try clear HLs)
          (try clear HRs)
          go_wp2
          go_end0
          exact ⟨rfl, d3, (by first | exact hfin.out.1 | rfl), hfin.out.2.1, hfin.out.2.2, hW3.out⟩
         ·have hr2z : ¬ (e : Int) < (b : Int) := by omega
          have hS3 := hid (hcutR.out d2 hP2.out (by omega))
          have hfin := hid (hend.out d2 d2 hP2.out hS2.out (permIn_refl _ _ _) hS3.out)
          clear hend HIHL HIHR hcutL hcutR
          (try clear HLs)
          (try clear HRs)
          go_wp2
          go_end0
          exact ⟨rfl, d2, (by first | exact hfin.out.1 | rfl), hfin.out.2.1, hfin.out.2.2, hW2.out⟩
        ·have hr1z : ¬ (mid : Int) < (e : Int) := by omega
         have hS3 := hid (hcutR.out d2 hP2.out (by omega))
         have hfin := hid (hend.out d2 d2 hP2.out hS2.out (permIn_refl _ _ _) hS3.out)
         clear hend HIHL HIHR hcutL hcutR
         (try clear HLs)
         (try clear HRs)
         go_wp2
         go_end0
         exact ⟨rfl, d2, (by first | exact hfin.out.1 | rfl), hfin.out.2.1, hfin.out.2.2, hW2.out⟩
       ·have hl2z : ¬ (s : Int) < (mid : Int) := by omega
        have hS2 := hid (hcutL.out (by omega))
        have hP2 := hid (permIn_refl d a mid)
        by_cases hr1 : mid < e
        ·have hr1z : (mid : Int) < (e : Int) := by omega
         by_cases hr2 : e < b
         ·have hr2z : (e : Int) < (b : Int) := by omega
          have hC3 := hid (HIHR.out d wr hP2.out SK.out hr1 hr2)
          go_wp2_with fail
          refine hC3.out.mono ?_
          rintro e_ w4 ⟨rfl, d3, hM3⟩
          have hP3 := hid hM3.pm
          have hS3 := hid hM3.srt
          have hW3 := hid hM3.sw
          clear hC3 hM3
          have hfin := hid (hend.out d d3 hP2.out hS2.out hP3.out hS3.out)
          clear hend HIHL HIHR hcutL hcutR
          (try clear HLs)
          (try clear HRs)
          go_wp2
          go_end0
          exact ⟨rfl, d3, (by first | exact hfin.out.1 | rfl), hfin.out.2.1, hfin.out.2.2, hW3.out⟩
         ·have hr2z : ¬ (e : Int) < (b : Int) := by omega
          have hS3 := hid (hcutR.out d hP2.out (by omega))
          have hfin := hid (hend.out d d hP2.out hS2.out (permIn_refl _ _ _) hS3.out)
          clear hend HIHL HIHR hcutL hcutR
          (try clear HLs)
          (try clear HRs)
          go_wp2
          go_end0
          exact ⟨rfl, d, (by first | exact hfin.out.1 | rfl), hfin.out.2.1, hfin.out.2.2, SK.out⟩
        ·have hr1z : ¬ (mid : Int) < (e : Int) := by omega
         have hS3 := hid (hcutR.out d hP2.out (by omega))
         have hfin := hid (hend.out d d hP2.out hS2.out (permIn_refl _ _ _) hS3.out)
         clear hend HIHL HIHR hcutL hcutR
         (try clear HLs)
         (try clear HRs)
         go_wp2
         go_end0
         exact ⟨rfl, d, (by first | exact hfin.out.1 | rfl), hfin.out.2.1, hfin.out.2.2, SK.out⟩
      ·have hl1z : ¬ (a : Int) < (s : Int) := by omega
       have hS2 := hid (hcutL.out (by omega))
       have hP2 := hid (permIn_refl d a mid)
       by_cases hr1 : mid < e
       ·have hr1z : (mid : Int) < (e : Int) := by omega
        by_cases hr2 : e < b
        ·have hr2z : (e : Int) < (b : Int) := by omega
         have hC3 := hid (HIHR.out d wr hP2.out SK.out hr1 hr2)
         go_wp2_with fail
         refine hC3.out.mono ?_
         rintro e_ w4 ⟨rfl, d3, hM3⟩
         have hP3 := hid hM3.pm
         have hS3 := hid hM3.srt
         have hW3 := hid hM3.sw
         clear hC3 hM3
         have hfin := hid (hend.out d d3 hP2.out hS2.out hP3.out hS3.out)
         clear hend HIHL HIHR hcutL hcutR
         (try clear HLs)
         (try clear HRs)
         go_wp2
         go_end0
         exact ⟨rfl, d3, (by first | exact hfin.out.1 | rfl), hfin.out.2.1, hfin.out.2.2, hW3.out⟩
        ·have hr2z : ¬ (e : Int) < (b : Int) := by omega
         have hS3 := hid (hcutR.out d hP2.out (by omega))
         have hfin := hid (hend.out d d hP2.out hS2.out (permIn_refl _ _ _) hS3.out)
         clear hend HIHL HIHR hcutL hcutR
         (try clear HLs)
         (try clear HRs)
         go_wp2
         go_end0
         exact ⟨rfl, d, (by first | exact hfin.out.1 | rfl), hfin.out.2.1, hfin.out.2.2, SK.out⟩
       ·have hr1z : ¬ (mid : Int) < (e : Int) := by omega
        have hS3 := hid (hcutR.out d hP2.out (by omega))
        have hfin := hid (hend.out d d hP2.out hS2.out (permIn_refl _ _ _) hS3.out)
        clear hend HIHL HIHR hcutL hcutR
        (try clear HLs)
        (try clear HRs)
        go_wp2
        go_end0
        exact ⟨rfl, d, (by first | exact hfin.out.1 | rfl), hfin.out.2.1, hfin.out.2.2, SK.out⟩
    ·have hr1z : ¬ (s : Int) < (m : Int) := by omega
     have hP1 := hid (permIn_refl d a b)
     have hF1 := hid (fun k => (show d[k]! = rotF (fun k => d[k]!) s m e k from by rw [rot_triv _ x2 x3 (.inl (by omega))]))
     have hz1 : d.size = d.size := hP1.out.1
     have hcutL := hid (symL (lt := ltOf cf) hF1.out KK.out.1 KK.out.2.1 (by omega))
     have hcutR := hid (symR (lt := ltOf cf) (a := a) hF1.out KK.out.2.2.1 KK.out.2.2.2.1 (by omega))
     have HIHL := hid fun (W : World) (SWd : SW enc w0 blk off d W) (q1 : a < s) (q2 : s < mid) => HIH.out a s mid (by omega) d W (by omega) SWd q1 q2 (by omega) (srt_of hF1.out KK.out.1) (srt_of hF1.out KK.out.2.1)
     have HIHR := hid fun (d2 : Array α) (W : World) (P2 : PermIn a mid d d2) (SWd : SW enc w0 blk off d2 W) (q1 : mid < e) (q2 : e < b) => HIH.out mid e b (by omega) d2 W (by have := P2.1; omega) SWd q1 q2 (by have := P2.1; omega) (srt_pm P2 (Nat.le_refl _) (srt_of hF1.out KK.out.2.2.1)) (srt_pm P2 (by omega) (srt_of hF1.out KK.out.2.2.2.1))
     have hend := hid fun (d2 d3 : Array α) (P2 : PermIn a mid d d2) (S2 : SortedIn (ltOf cf) a mid d2) (P3 : PermIn mid b d2 d3) (S3 : SortedIn (ltOf cf) mid b d3) => sym_fin (by omega) (by omega) hb hP1.out P2 S2 P3 S3 (fun x y x1 x2 y1 y2 => by rw [hF1.out, hF1.out]; exact KK.out.2.2.2.2 x y x1 x2 y1 y2)
     clear KK hF1 hP1 HIH HROT
     by_cases hl1 : a < s
     ·have hl1z : (a : Int) < (s : Int) := by omega
      by_cases hl2 : s < mid
      ·have hl2z : (s : Int) < (mid : Int) := by omega
       have hC2 := hid (HIHL.out wr SK.out hl1 hl2)
       go_wp2_with fail
       refine hC2.out.mono ?_
       rintro e_ w3 ⟨rfl, d2, hM2⟩
       have hP2 := hid hM2.pm
       have hS2 := hid hM2.srt
       have hW2 := hid hM2.sw
       clear hC2 hM2
       by_cases hr1 : mid < e
       ·have hr1z : (mid : Int) < (e : Int) := by omega
        by_cases hr2 : e < b
        ·have hr2z : (e : Int) < (b : Int) := by omega
         have hC3 := hid (HIHR.out d2 w3 hP2.out hW2.out hr1 hr2)
         go_wp2_with fail
         refine hC3.out.mono ?_
         rintro e_ w4 ⟨rfl, d3, hM3⟩
         have hP3 := hid hM3.pm
         have hS3 := hid hM3.srt
         have hW3 := hid hM3.sw
         clear hC3 hM3
         have hfin := hid (hend.out d2 d3 hP2.out hS2.out hP3.out hS3.out)
         clear hend HIHL HIHR hcutL hcutR
         (try clear HLs)
         (try clear HRs)
         go_wp2
         go_end0
         exact ⟨rfl, d3, (by first | exact hfin.out.1 | rfl), hfin.out.2.1, hfin.out.2.2, hW3.out⟩
        ·have hr2z : ¬ (e : Int) < (b : Int) := by omega
         have hS3 := hid (hcutR.out d2 hP2.out (by omega))
         have hfin := hid (hend.out d2 d2 hP2.out hS2.out (permIn_refl _ _ _) hS3.out)
         clear hend HIHL HIHR hcutL hcutR
         (try clear HLs)
         (try clear HRs)
         go_wp2
         go_end0
         exact ⟨rfl, d2, (by first | exact hfin.out.1 | rfl), hfin.out.2.1, hfin.out.2.2, hW2.out⟩
       ·have hr1z : ¬ (mid : Int) < (e : Int) := by omega
        have hS3 := hid (hcutR.out d2 hP2.out (by omega))
        have hfin := hid (hend.out d2 d2 hP2.out hS2.out (permIn_refl _ _ _) hS3.out)
        clear hend HIHL HIHR hcutL hcutR
        (try clear HLs)
        (try clear HRs)
        go_wp2
        go_end0
        exact ⟨rfl, d2, (by first | exact hfin.out.1 | rfl), hfin.out.2.1, hfin.out.2.2, hW2.out⟩
      ·have hl2z : ¬ (s : Int) < (mid : Int) := by omega
       have hS2 := hid (hcutL.out (by omega))
       have hP2 := hid (permIn_refl d a mid)
       by_cases hr1 : mid < e
       ·have hr1z : (mid : Int) < (e : Int) := by omega
        by_cases hr2 : e < b
        ·have hr2z : (e : Int) < (b : Int) := by omega
         have hC3 := hid (HIHR.out d wr hP2.out SK.out hr1 hr2)
         go_wp2_with fail
         refine hC3.out.mono ?_
         rintro e_ w4 ⟨rfl, d3, hM3⟩
         have hP3 := hid hM3.pm
         have hS3 := hid hM3.srt
         have hW3 := hid hM3.sw
         clear hC3 hM3
         have hfin := hid (hend.out d d3 hP2.out hS2.out hP3.out hS3.out)
         clear hend HIHL HIHR hcutL hcutR
         (try clear HLs)
         (try clear HRs)
         go_wp2
         go_end0
         exact ⟨rfl, d3, (by first | exact hfin.out.1 | rfl), hfin.out.2.1, hfin.out.2.2, hW3.out⟩
        ·have hr2z : ¬ (e : Int) < (b : Int) := by omega
         have hS3 := hid (hcutR.out d hP2.out (by omega))
         have hfin := hid (hend.out d d hP2.out hS2.out (permIn_refl _ _ _) hS3.out)
         clear hend HIHL HIHR hcutL hcutR
         (try clear HLs)
         (try clear HRs)
         go_wp2
         go_end0
         exact ⟨rfl, d, (by first | exact hfin.out.1 | rfl), hfin.out.2.1, hfin.out.2.2, SK.out⟩
       ·have hr1z : ¬ (mid : Int) < (e : Int) := by omega
        have hS3 := hid (hcutR.out d hP2.out (by omega))
        have hfin := hid (hend.out d d hP2.out hS2.out (permIn_refl _ _ _) hS3.out)
        clear hend HIHL HIHR hcutL hcutR
        (try clear HLs)
        (try clear HRs)
        go_wp2
        go_end0
        exact ⟨rfl, d, (by first | exact hfin.out.1 | rfl), hfin.out.2.1, hfin.out.2.2, SK.out⟩
     ·have hl1z : ¬ (a : Int) < (s : Int) := by omega
      have hS2 := hid (hcutL.out (by omega))
      have hP2 := hid (permIn_refl d a mid)
      by_cases hr1 : mid < e
      ·have hr1z : (mid : Int) < (e : Int) := by omega
       by_cases hr2 : e < b
       ·have hr2z : (e : Int) < (b : Int) := by omega
        have hC3 := hid (HIHR.out d wr hP2.out SK.out hr1 hr2)
        go_wp2_with fail
        refine hC3.out.mono ?_
        rintro e_ w4 ⟨rfl, d3, hM3⟩
        have hP3 := hid hM3.pm
        have hS3 := hid hM3.srt
        have hW3 := hid hM3.sw
        clear hC3 hM3
        have hfin := hid (hend.out d d3 hP2.out hS2.out hP3.out hS3.out)
        clear hend HIHL HIHR hcutL hcutR
        (try clear HLs)
        (try clear HRs)
        go_wp2
        go_end0
        exact ⟨rfl, d3, (by first | exact hfin.out.1 | rfl), hfin.out.2.1, hfin.out.2.2, hW3.out⟩
       ·have hr2z : ¬ (e : Int) < (b : Int) := by omega
        have hS3 := hid (hcutR.out d hP2.out (by omega))
        have hfin := hid (hend.out d d hP2.out hS2.out (permIn_refl _ _ _) hS3.out)
        clear hend HIHL HIHR hcutL hcutR
        (try clear HLs)
        (try clear HRs)
        go_wp2
        go_end0
        exact ⟨rfl, d, (by first | exact hfin.out.1 | rfl), hfin.out.2.1, hfin.out.2.2, SK.out⟩
      ·have hr1z : ¬ (mid : Int) < (e : Int) := by omega
       have hS3 := hid (hcutR.out d hP2.out (by omega))
       have hfin := hid (hend.out d d hP2.out hS2.out (permIn_refl _ _ _) hS3.out)
       clear hend HIHL HIHR hcutL hcutR
       (try clear HLs)
       (try clear HRs)
       go_wp2
       go_end0
       exact ⟨rfl, d, (by first | exact hfin.out.1 | rfl), hfin.out.2.1, hfin.out.2.2, SK.out⟩
end
end Go.Proofs.Ytjdgjhaggpahkaa
