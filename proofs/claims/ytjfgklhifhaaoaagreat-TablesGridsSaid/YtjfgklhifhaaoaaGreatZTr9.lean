/- Tables: whether all lines are valid, and a copy of a bitmap, of the reference. Conditions: a bitmap that is not empty. -/
import Derived.Test.YtjfgklhifhaaoaaGreatZTw7
import Derived.Test.YtjfgklhifhaaoaaGreatZTr5
set_option linter.unusedVariables false
set_option linter.unusedSimpArgs false
namespace Go.Proofs.YtjfgklhifhaaoaaGreat
open Go.RowKit
theorem all_not {l : List Ru} {i : Nat} (h : i < l.length) (hb : okR l[i] = false) : l.all okR = false := by
 rw [List.all_eq_false]
 exact ⟨_, List.getElem_mem h, by rw [hb]; simp⟩
theorem all_yes {l : List Ru} (h : ∀ i (hi : i < l.length), okR l[i] = true) : l.all okR = true := by
 rw [List.all_eq_true]
 intro x hx
 obtain ⟨i, hi, rfl⟩ := List.getElem_of_mem hx
 exact h i hi
set_option maxHeartbeats 4000000 in
theorem RVal_g (l : List Ru) (A : Option Addr) (c : Nat) {w : World} (hl : RuK.Rd w A c l) : Calls Tryz.prog 33 #[.slice A l.length c] w (RetB w (l.all okR)) := by
 obtain ⟨n, hn⟩ : ∃ n, l.length = n := ⟨_, rfl⟩
 have hM := hid fun (j : Nat) (hj : j < n) (W : World) (hb : Below w.heap.size w W) => (hl.below hb).at_ (j := j) (by omega)
 have cc := Nat.le_trans hl.cap hl.max
 have hB := hid fun (i : Nat) (h : i < l.length) hb => all_not (l := l) h hb
 have hE := hid fun h => all_yes (l := l) h
 rw [hn] at cc ⊢
 replace hn := hid hn
 generalize l.all okR = R at *
 clear hl
 have HB := Below.refl w.heap.size w
 go_enter Tryz.func33, Tryz.ntmps33
 go_wp2
 go_loopw [3] (fun s3 wr => ∃ i : Nat, s3 = .int .i64 i ∧ i ≤ n ∧ Hid (∀ j (hj : j < l.length), j < i → okR l[j] = true) ∧ Below w.heap.size w wr) (fun s3 _ => n - (intOf s3).toNat)
 case atStart => exact ⟨0, rfl, by omega, fun j _ h => by omega, HB⟩
 case round =>
  clear HB
  obtain ⟨i, rfl, hi, hA, HB⟩ := hrel
  by_cases hin : i < n
  ·have hii : (i : Int) < (n : Int) := by omega
   have hil : i < l.length := by have := hn.out; omega
   obtain ⟨b, o, hA3, hc⟩ := hM.out i hin wr HB
   have f0 : wr.cell? ⟨b, (o + i * 5), none⟩ = some (.bool l[i].v) := hc 0 _ rfl
   have f1 : wr.cell? ⟨b, (o + i * 5) + 1, none⟩ = some (.int .i64 l[i].a) := hc 1 _ rfl
   have f2 : wr.cell? ⟨b, (o + i * 5) + 2, none⟩ = some (.int .i64 l[i].t) := hc 2 _ rfl
   have f3 : wr.cell? ⟨b, (o + i * 5) + 3, none⟩ = some (.int .i64 l[i].f) := hc 3 _ rfl
   have f4 : wr.cell? ⟨b, (o + i * 5) + 4, none⟩ = some (.int .i64 l[i].o) := hc 4 _ rfl
   subst hA3
   have hb1 := hid fun (h : okR l[i] = false) => hB.out i hil h
   have hb2 := hid fun (h : okR l[i] = true) (j : Nat) (h1 : j < l.length) (hj : j < i + 1) => (show okR l[j] = true from by
    by_cases e : j = i
    ·subst e; exact h
    ·exact hA.out j h1 (by omega))
   clear hc
   generalize l[i] = q at *
   obtain ⟨qv, qa, qt, qf, qo⟩ := q
   dsimp only at f0 f1 f2 f3 f4
   have hok := okR_iff (r := ⟨qv, qa, qt, qf, qo⟩)
   dsimp only at hok
   have hbad := hid fun (h : ¬ (0 ≤ qa ∧ 0 ≤ qf ∧ 1 ≤ qt ∧ qf < qo ∧ qo ≤ 4096 ∧ qa ≤ 4096 ∧ qt ≤ 4096 - qa)) => hb1.out (Bool.eq_false_iff.2 fun e => h (hok.1 e))
   have hgood := hid fun (h : 0 ≤ qa ∧ 0 ≤ qf ∧ 1 ≤ qt ∧ qf < qo ∧ qo ≤ 4096 ∧ qa ≤ 4096 ∧ qt ≤ 4096 - qa) => hb2.out (hok.2 h)
   clear hb1 hb2 hok
   go_upto_region 5 with fail
   refine enterR (P := fun u => Code.wp _ _ _ _ u) (c := [.bool qv, .int .i64 qa, .int .i64 qt, .int .i64 qf, .int .i64 qo]) ?_
   intro x hbx s0 zx hsx
   clear hsx zx f0 f1 f2 f3 f4
   have f0 : (x).cell? ⟨wr.heap.size, 0, none⟩ = some (.bool qv) := s0 0 _ rfl
   have f1 : (x).cell? ⟨wr.heap.size, 1, none⟩ = some (.int .i64 qa) := s0 1 _ rfl
   have f2 : (x).cell? ⟨wr.heap.size, 2, none⟩ = some (.int .i64 qt) := s0 2 _ rfl
   have f3 : (x).cell? ⟨wr.heap.size, 3, none⟩ = some (.int .i64 qf) := s0 3 _ rfl
   have f4 : (x).cell? ⟨wr.heap.size, 4, none⟩ = some (.int .i64 qo) := s0 4 _ rfl
   clear s0
   replace HB := bel_step HB hbx
   clear hbx
   by_cases g1 : qa < 0
   ·skip
    obtain rfl := hbad.out (by omega)
    clear hbad hgood hM hA hE hB
    go_wp2
    go_ret
    exact ⟨rfl, HB⟩
   ·by_cases g2 : qf < 0
    ·skip
     obtain rfl := hbad.out (by omega)
     clear hbad hgood hM hA hE hB
     go_wp2
     go_ret
     exact ⟨rfl, HB⟩
    ·by_cases g3 : qt < 1
     ·skip
      obtain rfl := hbad.out (by omega)
      clear hbad hgood hM hA hE hB
      go_wp2
      go_ret
      exact ⟨rfl, HB⟩
     ·by_cases g4 : qo ≤ qf
      ·skip
       obtain rfl := hbad.out (by omega)
       clear hbad hgood hM hA hE hB
       go_wp2
       go_ret
       exact ⟨rfl, HB⟩
      ·by_cases g5 : 4096 < qo
       ·skip
        obtain rfl := hbad.out (by omega)
        clear hbad hgood hM hA hE hB
        go_wp2
        go_ret
        exact ⟨rfl, HB⟩
       ·by_cases g6 : 4096 < qt
        ·skip
         obtain rfl := hbad.out (by omega)
         clear hbad hgood hM hA hE hB
         go_wp2
         go_ret
         exact ⟨rfl, HB⟩
        ·have hws : IntKind.i64.wrap (4096 - qt) = 4096 - qt := by rw [IntKind.wrap_i64]; omega
         by_cases g7 : 4096 - qt < qa
         ·skip
          obtain rfl := hbad.out (by omega)
          clear hbad hgood hM hA hE hB
          go_wp2
          go_ret
          exact ⟨rfl, HB⟩
         ·have hA2 := hid (hgood.out (by omega))
          clear hbad hgood hM hA hE hB
          go_wp2
          go_roundw
          case rel => exact ⟨i + 1, by go_num, by omega, hA2, HB⟩
          case measure => simp [intOf]; omega
  ·obtain rfl : i = n := by omega
   have hii : ¬ (i : Int) < (i : Int) := by omega
   obtain rfl := hE.out fun j hj => hA.out j hj (by have := hn.out; omega)
   clear hM
   go_wp2
   go_ret
   exact ⟨rfl, HB⟩
/-! a copy -/
end Go.Proofs.YtjfgklhifhaaoaaGreat
