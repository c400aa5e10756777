/- Tables: the kinds of elements; valid lines; numbers that count. Conditions: none. -/
import Derived.Test.YtjfgklhifhaaoaaZPA
set_option linter.unusedVariables false
set_option linter.unusedSimpArgs false
namespace Go.Proofs.Ytjfgklhifhaaoaa
open Go.RowKit
/-! kinds of elements -/
def RuK : Knd Ru := ⟨39, 54, 5, 40, .agg #[.bool false, .int .i64 0, .int .i64 0, .int .i64 0, .int .i64 0], fun r => [.bool r.v, .int .i64 r.a, .int .i64 r.t, .int .i64 r.f, .int .i64 r.o]⟩
def RnK : Knd (Nat × Nat) := ⟨62, 85, 2, 16, .agg #[.int .i64 0, .int .i64 0], fun r => [.int .i64 r.1, .int .i64 r.2]⟩
def BdK : Knd (Int × Int) := ⟨67, 79, 2, 16, .agg #[.int .i64 0, .int .i64 0], fun r => [.int .i64 r.1, .int .i64 r.2]⟩
def SpK : Knd Sp := ⟨68, 99, 3, 24, .agg #[.int .i64 0, .int .i64 0, .int .i64 0], fun r => [.int .i64 r.n, .int .i64 r.f, .int .i64 r.o]⟩
def CeK : Knd Ce := ⟨32, 38, 8, 64, .agg #[.int .i64 0, .int .i64 0, .int .i64 0, .int .i64 0, .int .i64 0, .int .i64 0, .int .i64 0, .int .i64 0], fun r => [.int .i64 r.r, .int .i64 r.c, .int .i64 r.rs, .int .i64 r.cs, .int .i64 r.b.x, .int .i64 r.b.y, .int .i64 r.b.w, .int .i64 r.b.h]⟩
def InK : Knd Int := ⟨22, 3, 1, 8, .int .i64 0, fun r => [.int .i64 r]⟩
def NaK : Knd Nat := ⟨22, 3, 1, 8, .int .i64 0, fun r => [.int .i64 r]⟩
def BoK : Knd Bool := ⟨25, 4, 1, 1, .bool false, fun r => [.bool r]⟩
theorem RuKo : RuK.Ok := ⟨Try.underlying39, by kernel_rfl, rfl, by decide, by decide, fun _ => rfl, fun _ v hv => by
 simp only [RuK, List.mem_cons, List.not_mem_nil, or_false] at hv
 repeat' (rcases hv with rfl | hv; rfl)⟩
theorem RnKo : RnK.Ok := ⟨Try.underlying62, by kernel_rfl, rfl, by decide, by decide, fun _ => rfl, fun _ v hv => by
 simp only [RnK, List.mem_cons, List.not_mem_nil, or_false] at hv
 repeat' (rcases hv with rfl | hv; rfl)⟩
theorem BdKo : BdK.Ok := ⟨Try.underlying67, by kernel_rfl, rfl, by decide, by decide, fun _ => rfl, fun _ v hv => by
 simp only [BdK, List.mem_cons, List.not_mem_nil, or_false] at hv
 repeat' (rcases hv with rfl | hv; rfl)⟩
theorem SpKo : SpK.Ok := ⟨Try.underlying68, by kernel_rfl, rfl, by decide, by decide, fun _ => rfl, fun _ v hv => by
 simp only [SpK, List.mem_cons, List.not_mem_nil, or_false] at hv
 repeat' (rcases hv with rfl | hv; rfl)⟩
theorem CeKo : CeK.Ok := ⟨Try.underlying32, by kernel_rfl, rfl, by decide, by decide, fun _ => rfl, fun _ v hv => by
 simp only [CeK, List.mem_cons, List.not_mem_nil, or_false] at hv
 repeat' (rcases hv with rfl | hv; rfl)⟩
theorem InKo : InK.Ok := ⟨Try.underlying22, by kernel_rfl, rfl, by decide, by decide, fun _ => rfl, fun _ v hv => by
 simp only [InK, List.mem_cons, List.not_mem_nil, or_false] at hv
 repeat' (rcases hv with rfl | hv; rfl)⟩
theorem NaKo : NaK.Ok := ⟨Try.underlying22, by kernel_rfl, rfl, by decide, by decide, fun _ => rfl, fun _ v hv => by
 simp only [NaK, List.mem_cons, List.not_mem_nil, or_false] at hv
 repeat' (rcases hv with rfl | hv; rfl)⟩
theorem BoKo : BoK.Ok := ⟨Try.underlying25, by kernel_rfl, rfl, by decide, by decide, fun _ => rfl, fun _ v hv => by
 simp only [BoK, List.mem_cons, List.not_mem_nil, or_false] at hv
 repeat' (rcases hv with rfl | hv; rfl)⟩
set_option maxHeartbeats 2000000 in
theorem TValid_g (r : Ru) (w : World) : Calls Try.prog 28 #[.agg #[.bool r.v, .int .i64 r.a, .int .i64 r.t, .int .i64 r.f, .int .i64 r.o]] w (RetB w (okR r)) := by
 have hs := hid (okR_iff (r := r))
 generalize okR r = t at *
 obtain ⟨v, a, th, f, o⟩ := r
 have hn : Hid (¬ (0 ≤ a ∧ 0 ≤ f ∧ 1 ≤ th ∧ f < o ∧ o ≤ 4096 ∧ a ≤ 4096 ∧ th ≤ 4096 - a) → t = false) := fun h => Bool.eq_false_iff.2 fun e => h (hs.out.1 e)
 go_enter Try.func28, Try.ntmps28
 go_upto_region 1 with fail
 refine enterR (P := fun u => Code.wp _ _ _ _ u) (c := [.bool (Ru.mk v a th f o).v, .int .i64 (Ru.mk v a th f o).a, .int .i64 (Ru.mk v a th f o).t, .int .i64 (Ru.mk v a th f o).f, .int .i64 (Ru.mk v a th f o).o]) ?_
 intro u HB r0 zn0 hsz
 clear hsz zn0
 have c0 : (u).cell? ⟨w.heap.size, 0, none⟩ = some (.bool (Ru.mk v a th f o).v) := r0 0 _ rfl
 have c1 : (u).cell? ⟨w.heap.size, 1, none⟩ = some (.int .i64 (Ru.mk v a th f o).a) := r0 1 _ rfl
 have c2 : (u).cell? ⟨w.heap.size, 2, none⟩ = some (.int .i64 (Ru.mk v a th f o).t) := r0 2 _ rfl
 have c3 : (u).cell? ⟨w.heap.size, 3, none⟩ = some (.int .i64 (Ru.mk v a th f o).f) := r0 3 _ rfl
 have c4 : (u).cell? ⟨w.heap.size, 4, none⟩ = some (.int .i64 (Ru.mk v a th f o).o) := r0 4 _ rfl
 clear r0
 dsimp only at c0 c1 c2 c3 c4
 by_cases h1 : 0 ≤ a
 ·by_cases h2 : 0 ≤ f
  ·by_cases h3 : 1 ≤ th
   ·by_cases h4 : f < o
    ·by_cases h5 : o ≤ 4096
     ·by_cases h6 : a ≤ 4096
      ·have hw : IntKind.i64.wrap (4096 - a) = 4096 - a := by rw [IntKind.wrap_i64]; omega
       by_cases h7 : th ≤ 4096 - a
       ·obtain rfl := hs.out.2 ⟨h1, h2, h3, h4, h5, h6, h7⟩
        clear hs hn
        go_wp2
        go_ret
        exact ⟨rfl, HB⟩
       ·obtain rfl := hn.out fun h => h7 h.2.2.2.2.2.2
        clear hs hn
        go_wp2
        go_ret
        exact ⟨rfl, HB⟩
      ·obtain rfl := hn.out fun h => h6 h.2.2.2.2.2.1
       clear hs hn
       go_wp2
       go_ret
       exact ⟨rfl, HB⟩
     ·obtain rfl := hn.out fun h => h5 h.2.2.2.2.1
      clear hs hn
      go_wp2
      go_ret
      exact ⟨rfl, HB⟩
    ·obtain rfl := hn.out fun h => h4 h.2.2.2.1
     clear hs hn
     go_wp2
     go_ret
     exact ⟨rfl, HB⟩
   ·obtain rfl := hn.out fun h => h3 h.2.2.1
    clear hs hn
    go_wp2
    go_ret
    exact ⟨rfl, HB⟩
  ·obtain rfl := hn.out fun h => h2 h.2.1
   clear hs hn
   go_wp2
   go_ret
   exact ⟨rfl, HB⟩
 ·obtain rfl := hn.out fun h => h1 h.1
  clear hs hn
  go_wp2
  go_ret
  exact ⟨rfl, HB⟩
/-! predicates on numbers -/
set_option maxHeartbeats 1000000 in
theorem Nr1_g (x : Int) (w : World) : Calls Try.prog 46 #[.int .i64 x] w (RetB w (!nrB x)) := by
 have hs := hid (nrB_iff (x := x))
 generalize nrB x = t at *
 have hn : Hid (¬ (-1073741824 ≤ x ∧ x ≤ 1073741824) → t = false) := fun h => Bool.eq_false_iff.2 fun e => h (hs.out.1 e)
 have HB := Below.refl w.heap.size w
 go_enter Try.func46, Try.ntmps46
 by_cases h1 : x < -1073741824
 ·obtain rfl := hn.out (by omega)
  clear hs hn
  go_wp2
  go_ret
  exact ⟨rfl, HB⟩
 ·by_cases h2 : 1073741824 < x
  ·obtain rfl := hn.out (by omega)
   clear hs hn
   go_wp2
   go_ret
   exact ⟨rfl, HB⟩
  ·obtain rfl := hs.out.2 (by omega)
   clear hs hn
   go_wp2
   go_ret
   exact ⟨rfl, HB⟩
theorem badI_iff {x : Int} : badI x = true ↔ x < 1 ∨ 4096 < x := by unfold badI; exact decide_eq_true_iff
set_option maxHeartbeats 1000000 in
theorem Dr1_g (x : Int) (w : World) : Calls Try.prog 15 #[.int .i64 x] w (RetB w (badI x)) := by
 have hs := hid (badI_iff (x := x))
 generalize badI x = t at *
 have hn : Hid (¬ (x < 1 ∨ 4096 < x) → t = false) := fun h => Bool.eq_false_iff.2 fun e => h (hs.out.1 e)
 have HB := Below.refl w.heap.size w
 go_enter Try.func15, Try.ntmps15
 by_cases h1 : x < 1
 ·obtain rfl := hs.out.2 (by omega)
  clear hs hn
  go_wp2
  go_ret
  exact ⟨rfl, HB⟩
 ·by_cases h2 : 4096 < x
  ·obtain rfl := hs.out.2 (by omega)
   clear hs hn
   go_wp2
   go_ret
   exact ⟨rfl, HB⟩
  ·obtain rfl := hn.out (by omega)
   clear hs hn
   go_wp2
   go_ret
   exact ⟨rfl, HB⟩
def nonr (x : Int) : Bool := !nrB x
theorem Nr2_g (x : Int) (w : World) : Calls Try.prog 46 #[.int .i64 x] w (RetB w (nonr x)) := Nr1_g x w
set_option maxHeartbeats 2000000 in
theorem IxNr (l : List Int) (A : Option Addr) (c : Nat) {w : World} (hl : InK.Rd w A c l) :
  Calls Try.prog 33 #[.slice A l.length c, .func (.func 46) #[] #[]] w fun e w' => ∃ k : Int, e = .returned (.int .i64 k) ∧ decide (0 ≤ k) = (l.any fun b => nonr b) ∧ Below w.heap.size w w' := by
 obtain ⟨n, hn⟩ : ∃ n, l.length = n := ⟨_, rfl⟩
 have hM := hid fun (j : Nat) (hj : j < n) (W : World) (hb : Below w.heap.size w W) => (hl.below hb).at_ (j := j) (by omega)
 have cc := Nat.le_trans hl.cap hl.max
 obtain ⟨R, hR⟩ : ∃ R, (l.any fun b => nonr b) = R := ⟨_, rfl⟩
 have hT := hid fun (j : Nat) (h1 : j < l.length) (h : nonr l[j] = true) => (show R = true from by
  rw [← hR, List.any_eq_true]; exact ⟨l[j], List.getElem_mem h1, h⟩)
 have hF := hid fun (h : ∀ j (h1 : j < l.length), nonr l[j] = false) => (show R = false from by
  rw [← hR, List.any_eq_false]
  intro x hx
  obtain ⟨j, hj, e⟩ := List.getElem_of_mem hx
  rw [← e, h j hj]; simp)
 rw [hn] at cc ⊢
 rw [hR]
 replace hn := hid hn
 clear hl hR
 have HB := Below.refl w.heap.size w
 go_enter Try.func33, Try.ntmps33
 go_wp2
 go_loopw [8, 5] (fun s8 s5 wr => ∃ i : Nat, s8 = .int .i64 i ∧ i ≤ n ∧ Hid (∀ j (h1 : j < l.length), j < i → nonr l[j] = false) ∧ Below w.heap.size w wr) (fun s8 _ _ => n - (intOf s8).toNat)
 case atStart => exact ⟨0, rfl, by omega, fun j _ h => by omega, HB⟩
 case round =>
  clear HB
  obtain ⟨i, rfl, hi, hA, HB⟩ := hrel
  by_cases hin : i < n
  ·have hii : (i : Int) < (n : Int) := by omega
   have hil : i < l.length := by have := hn.out; omega
   obtain ⟨b, o, hA3, hc⟩ := hM.out i hin wr HB
   have e0 : wr.cell? ⟨b, o + i * 1, none⟩ = some (.int .i64 l[i]) := hc 0 _ rfl
   rw [Nat.mul_one] at e0
   subst hA3
   clear hc
   obtain ⟨t, ht⟩ : ∃ t, nonr l[i] = t := ⟨_, rfl⟩
   have H1 := hid fun (W : World) => (show Calls Try.prog 46 #[.int .i64 l[i]] W (RetB W t) from by rw [← ht]; exact Nr2_g l[i] W)
   have hb1 := hid fun (h : t = true) => hT.out i hil (ht.trans h)
   have hb2 := hid fun (h : t = false) (j : Nat) (h1 : j < l.length) (hj : j < i + 1) => (show nonr l[j] = false from by
    by_cases e : j = i
    ·subst e; exact ht.trans h
    ·exact hA.out j h1 (by omega))
   generalize l[i] = q at *
   clear hM hA hT hF ht
   go_wp2_with fail
   refine (H1.out _).mono ?_
   rintro e w1 ⟨rfl, hv⟩
   replace HB := bel_step HB hv
   clear hv H1 e0
   cases t
   ·have hA2 := hid (hb2.out (by first | rfl | trivial))
    clear hb1 hb2
    go_wp2
    go_roundw
    case rel => exact ⟨i + 1, by go_num, by omega, hA2, HB⟩
    case measure => simp [intOf]; omega
   ·obtain rfl := hb1.out (by first | rfl | trivial)
    clear hb1 hb2
    go_wp2
    go_ret
    exact ⟨(i : Int), rfl, decide_eq_true (by omega), HB⟩
  ·obtain rfl : i = n := by omega
   obtain rfl := hF.out (fun j h1 => hA.out j h1 (by have := hn.out; omega))
   have hii : ¬ (i : Int) < (i : Int) := by omega
   clear hM hA hT hF
   go_wp2
   go_ret
   exact ⟨-1, rfl, by first | rfl | omega | decide, HB⟩
set_option maxHeartbeats 1000000 in
theorem CtNr (l : List Int) (A : Option Addr) (c : Nat) {w : World} (hl : InK.Rd w A c l) :
  Calls Try.prog 16 #[.slice A l.length c, .func (.func 46) #[] #[]] w (RetB w (l.any fun b => nonr b)) := by
 have H1 := hid (IxNr l A c hl)
 generalize (l.any fun b => nonr b) = R at *
 generalize l.length = n at *
 clear hl
 go_enter Try.func16, Try.ntmps16
 go_wp2_with fail
 refine H1.out.mono ?_
 rintro e w1 ⟨k, rfl, hk, hv⟩
 clear H1
 have hk := hid hk
 go_wp2
 go_ret
 exact ⟨by rw [← hk.out]; rfl, hv⟩
set_option maxHeartbeats 2000000 in
theorem IxDr (l : List Int) (A : Option Addr) (c : Nat) {w : World} (hl : InK.Rd w A c l) :
  Calls Try.prog 33 #[.slice A l.length c, .func (.func 15) #[] #[]] w fun e w' => ∃ k : Int, e = .returned (.int .i64 k) ∧ decide (0 ≤ k) = (l.any fun b => badI b) ∧ Below w.heap.size w w' := by
 obtain ⟨n, hn⟩ : ∃ n, l.length = n := ⟨_, rfl⟩
 have hM := hid fun (j : Nat) (hj : j < n) (W : World) (hb : Below w.heap.size w W) => (hl.below hb).at_ (j := j) (by omega)
 have cc := Nat.le_trans hl.cap hl.max
 obtain ⟨R, hR⟩ : ∃ R, (l.any fun b => badI b) = R := ⟨_, rfl⟩
 have hT := hid fun (j : Nat) (h1 : j < l.length) (h : badI l[j] = true) => (show R = true from by
  rw [← hR, List.any_eq_true]; exact ⟨l[j], List.getElem_mem h1, h⟩)
 have hF := hid fun (h : ∀ j (h1 : j < l.length), badI l[j] = false) => (show R = false from by
  rw [← hR, List.any_eq_false]
  intro x hx
  obtain ⟨j, hj, e⟩ := List.getElem_of_mem hx
  rw [← e, h j hj]; simp)
 rw [hn] at cc ⊢
 rw [hR]
 replace hn := hid hn
 clear hl hR
 have HB := Below.refl w.heap.size w
 go_enter Try.func33, Try.ntmps33
 go_wp2
 go_loopw [8, 5] (fun s8 s5 wr => ∃ i : Nat, s8 = .int .i64 i ∧ i ≤ n ∧ Hid (∀ j (h1 : j < l.length), j < i → badI l[j] = false) ∧ Below w.heap.size w wr) (fun s8 _ _ => n - (intOf s8).toNat)
 case atStart => exact ⟨0, rfl, by omega, fun j _ h => by omega, HB⟩
 case round =>
  clear HB
  obtain ⟨i, rfl, hi, hA, HB⟩ := hrel
  by_cases hin : i < n
  ·have hii : (i : Int) < (n : Int) := by omega
   have hil : i < l.length := by have := hn.out; omega
   obtain ⟨b, o, hA3, hc⟩ := hM.out i hin wr HB
   have e0 : wr.cell? ⟨b, o + i * 1, none⟩ = some (.int .i64 l[i]) := hc 0 _ rfl
   rw [Nat.mul_one] at e0
   subst hA3
   clear hc
   obtain ⟨t, ht⟩ : ∃ t, badI l[i] = t := ⟨_, rfl⟩
   have H1 := hid fun (W : World) => (show Calls Try.prog 15 #[.int .i64 l[i]] W (RetB W t) from by rw [← ht]; exact Dr1_g l[i] W)
   have hb1 := hid fun (h : t = true) => hT.out i hil (ht.trans h)
   have hb2 := hid fun (h : t = false) (j : Nat) (h1 : j < l.length) (hj : j < i + 1) => (show badI l[j] = false from by
    by_cases e : j = i
    ·subst e; exact ht.trans h
    ·exact hA.out j h1 (by omega))
   generalize l[i] = q at *
   clear hM hA hT hF ht
   go_wp2_with fail
   refine (H1.out _).mono ?_
   rintro e w1 ⟨rfl, hv⟩
   replace HB := bel_step HB hv
   clear hv H1 e0
   cases t
   ·have hA2 := hid (hb2.out (by first | rfl | trivial))
    clear hb1 hb2
    go_wp2
    go_roundw
    case rel => exact ⟨i + 1, by go_num, by omega, hA2, HB⟩
    case measure => simp [intOf]; omega
   ·obtain rfl := hb1.out (by first | rfl | trivial)
    clear hb1 hb2
    go_wp2
    go_ret
    exact ⟨(i : Int), rfl, decide_eq_true (by omega), HB⟩
  ·obtain rfl : i = n := by omega
   obtain rfl := hF.out (fun j h1 => hA.out j h1 (by have := hn.out; omega))
   have hii : ¬ (i : Int) < (i : Int) := by omega
   clear hM hA hT hF
   go_wp2
   go_ret
   exact ⟨-1, rfl, by first | rfl | omega | decide, HB⟩
set_option maxHeartbeats 1000000 in
theorem CtDr (l : List Int) (A : Option Addr) (c : Nat) {w : World} (hl : InK.Rd w A c l) :
  Calls Try.prog 16 #[.slice A l.length c, .func (.func 15) #[] #[]] w (RetB w (l.any fun b => badI b)) := by
 have H1 := hid (IxDr l A c hl)
 generalize (l.any fun b => badI b) = R at *
 generalize l.length = n at *
 clear hl
 go_enter Try.func16, Try.ntmps16
 go_wp2_with fail
 refine H1.out.mono ?_
 rintro e w1 ⟨k, rfl, hk, hv⟩
 clear H1
 have hk := hid hk
 go_wp2
 go_ret
 exact ⟨by rw [← hk.out]; rfl, hv⟩
theorem near_g (l : List Int) (A : Option Addr) (c : Nat) {w : World} (hl : InK.Rd w A c l) : Calls Try.prog 32 #[.slice A l.length c] w (RetB w (!l.any nonr)) := by
 have H1 := hid (CtNr l A c hl)
 generalize (l.any nonr) = R at *
 generalize l.length = n at *
 clear hl
 go_enter Try.func32, Try.ntmps32
 go_wp2_with fail
 refine H1.out.mono ?_
 rintro e w1 ⟨rfl, hv⟩
 clear H1
 go_wp2
 go_ret
 exact ⟨rfl, hv⟩
end Go.Proofs.Ytjfgklhifhaaoaa
