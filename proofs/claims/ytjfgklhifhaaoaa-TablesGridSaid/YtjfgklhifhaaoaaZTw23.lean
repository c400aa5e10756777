/- Tables: whether a line is not valid. Conditions: none. -/
import Derived.Test.YtjfgklhifhaaoaaZTw14
set_option linter.unusedVariables false
set_option linter.unusedSimpArgs false
namespace Go.Proofs.Ytjfgklhifhaaoaa
open Go.RowKit
def badR (r : Ru) : Bool := !okR r
theorem any_bad (l : List Ru) : (l.any badR) = !(l.all okR) := by
 induction l with
 | nil => rfl
 | cons a l ih => simp only [List.any_cons, List.all_cons, ih, badR, Bool.not_and]
set_option maxHeartbeats 1000000 in
theorem Gr1_g (r : Ru) (w : World) : Calls Try.prog 27 #[.agg #[.bool r.v, .int .i64 r.a, .int .i64 r.t, .int .i64 r.f, .int .i64 r.o]] w (RetB w (badR r)) := by
 have H1 := hid fun W => TValid_g r W
 unfold badR
 generalize okR r = t at *
 obtain ⟨v, a, th, f, o⟩ := r
 dsimp only at H1 ⊢
 go_enter Try.func27, Try.ntmps27
 go_upto_region 1 with fail
 refine enterR (P := fun u => Code.wp _ _ _ _ u) (c := [.bool (Ru.mk v a th f o).v, .int .i64 (Ru.mk v a th f o).a, .int .i64 (Ru.mk v a th f o).t, .int .i64 (Ru.mk v a th f o).f, .int .i64 (Ru.mk v a th f o).o]) ?_
 intro u HB r0 zn0 hsz
 clear hsz zn0
 have c0 : (u).cell? ⟨w.heap.size, 0, none⟩ = some (.bool (Ru.mk v a th f o).v) := r0 0 _ rfl
 have c1 : (u).cell? ⟨w.heap.size, 1, none⟩ = some (.int .i64 (Ru.mk v a th f o).a) := r0 1 _ rfl
 have c2 : (u).cell? ⟨w.heap.size, 2, none⟩ = some (.int .i64 (Ru.mk v a th f o).t) := r0 2 _ rfl
 have c3 : (u).cell? ⟨w.heap.size, 3, none⟩ = some (.int .i64 (Ru.mk v a th f o).f) := r0 3 _ rfl
 have c4 : (u).cell? ⟨w.heap.size, 4, none⟩ = some (.int .i64 (Ru.mk v a th f o).o) := r0 4 _ rfl
 clear r0
 dsimp only at c0 c1 c2 c3 c4
 go_wp2_with fail
 refine (H1.out u).mono ?_
 rintro e w1 ⟨rfl, hv⟩
 replace HB := bel_step HB hv
 clear H1 hv c0 c1 c2 c3 c4
 go_wp2
 go_ret
 exact ⟨rfl, HB⟩
set_option maxHeartbeats 2000000 in
theorem IxR_g (l : List Ru) (A : Option Addr) (c : Nat) {w : World} (hl : RuK.Rd w A c l) :
  Calls Try.prog 40 #[.slice A l.length c, .func (.func 27) #[] #[]] w fun e w' => ∃ k : Int, e = .returned (.int .i64 k) ∧ decide (0 ≤ k) = (l.any badR) ∧ Below w.heap.size w w' := by
 obtain ⟨n, hn⟩ : ∃ n, l.length = n := ⟨_, rfl⟩
 have hM := hid fun (j : Nat) (hj : j < n) (W : World) (hb : Below w.heap.size w W) => (hl.below hb).at_ (j := j) (by omega)
 have cc := Nat.le_trans hl.cap hl.max
 obtain ⟨R, hR⟩ : ∃ R, (l.any badR) = R := ⟨_, rfl⟩
 have hT := hid fun (j : Nat) (h1 : j < l.length) (h : badR l[j] = true) => (show R = true from by
  rw [← hR, List.any_eq_true]; exact ⟨l[j], List.getElem_mem h1, h⟩)
 have hF := hid fun (h : ∀ j (h1 : j < l.length), badR l[j] = false) => (show R = false from by
  rw [← hR, List.any_eq_false]
  intro x hx
  obtain ⟨j, hj, e⟩ := List.getElem_of_mem hx
  rw [← e, h j hj]; simp)
 rw [hn] at cc ⊢
 rw [hR]
 replace hn := hid hn
 clear hl hR
 have HB := Below.refl w.heap.size w
 go_enter Try.func40, Try.ntmps40
 go_wp2
 go_loopw [8, 5] (fun s8 s5 wr => ∃ i : Nat, s8 = .int .i64 i ∧ i ≤ n ∧ Hid (∀ j (h1 : j < l.length), j < i → badR l[j] = false) ∧ Below w.heap.size w wr) (fun s8 _ _ => n - (intOf s8).toNat)
 case atStart => exact ⟨0, rfl, by omega, fun j _ h => by omega, HB⟩
 case round =>
  clear HB
  obtain ⟨i, rfl, hi, hA, HB⟩ := hrel
  by_cases hin : i < n
  ·have hii : (i : Int) < (n : Int) := by omega
   have hil : i < l.length := by have := hn.out; omega
   obtain ⟨b, o, hA3, hc⟩ := hM.out i hin wr HB
   have f0 : wr.cell? ⟨b, (o + i * 5), none⟩ = some (.bool l[i].v) := hc 0 _ rfl
   have f1 : wr.cell? ⟨b, (o + i * 5) + 1, none⟩ = some (.int .i64 l[i].a) := hc 1 _ rfl
   have f2 : wr.cell? ⟨b, (o + i * 5) + 2, none⟩ = some (.int .i64 l[i].t) := hc 2 _ rfl
   have f3 : wr.cell? ⟨b, (o + i * 5) + 3, none⟩ = some (.int .i64 l[i].f) := hc 3 _ rfl
   have f4 : wr.cell? ⟨b, (o + i * 5) + 4, none⟩ = some (.int .i64 l[i].o) := hc 4 _ rfl
   subst hA3
   clear hc
   obtain ⟨t, ht⟩ : ∃ t, badR l[i] = t := ⟨_, rfl⟩
   have H1 := hid fun (W : World) => (show Calls Try.prog 27 #[.agg #[.bool l[i].v, .int .i64 l[i].a, .int .i64 l[i].t, .int .i64 l[i].f, .int .i64 l[i].o]] W (RetB W t) from by rw [← ht]; exact Gr1_g l[i] W)
   have hb1 := hid fun (h : t = true) => hT.out i hil (ht.trans h)
   have hb2 := hid fun (h : t = false) (j : Nat) (h1 : j < l.length) (hj : j < i + 1) => (show badR l[j] = false from by
    by_cases e : j = i
    ·subst e; exact ht.trans h
    ·exact hA.out j h1 (by omega))
   generalize l[i] = q at *
   obtain ⟨qv, qa, qt, qf, qo⟩ := q
   dsimp only at f0 f1 f2 f3 f4 H1
   clear hM hA hT hF ht
   go_wp2_with fail
   refine (H1.out _).mono ?_
   rintro e w1 ⟨rfl, hv⟩
   replace HB := bel_step HB hv
   clear hv H1 f0 f1 f2 f3 f4
   cases t
   ·have hA2 := hid (hb2.out (by first | rfl | trivial))
    clear hb1 hb2
    go_wp2
    go_roundw
    case rel => exact ⟨i + 1, by go_num, by omega, hA2, HB⟩
    case measure => simp [intOf]; omega
   ·obtain rfl := hb1.out (by first | rfl | trivial)
    clear hb1 hb2
    go_wp2
    go_ret
    exact ⟨(i : Int), rfl, decide_eq_true (by omega), HB⟩
  ·obtain rfl : i = n := by omega
   obtain rfl := hF.out (fun j h1 => hA.out j h1 (by have := hn.out; omega))
   have hii : ¬ (i : Int) < (i : Int) := by omega
   clear hM hA hT hF
   go_wp2
   go_ret
   exact ⟨-1, rfl, by first | rfl | omega | decide, HB⟩
set_option maxHeartbeats 1000000 in
theorem CtR_g (l : List Ru) (A : Option Addr) (c : Nat) {w : World} (hl : RuK.Rd w A c l) :
  Calls Try.prog 26 #[.slice A l.length c, .func (.func 27) #[] #[]] w (RetB w (!l.all okR)) := by
 have H1 := hid (IxR_g l A c hl)
 rw [any_bad] at H1
 generalize (!l.all okR) = R at *
 generalize l.length = n at *
 clear hl
 go_enter Try.func26, Try.ntmps26
 go_wp2_with fail
 refine H1.out.mono ?_
 rintro e w1 ⟨k, rfl, hk, hv⟩
 clear H1
 replace hk := hid hk
 go_wp2
 go_ret
 exact ⟨by rw [← hk.out]; rfl, hv⟩
end Go.Proofs.Ytjfgklhifhaaoaa
