/- Tables: neighbouring bands apart; the first band with a property. Conditions: numbers up to 4096. -/
import Derived.Test.YtjfgklhifhaaoaaZTw14
set_option linter.unusedVariables false
set_option linter.unusedSimpArgs false
namespace Go.Proofs.Ytjfgklhifhaaoaa
open Go.RowKit
/-- small bands -/
def BdS (l : List (Int × Int)) : Prop := ∀ b ∈ l, (0 ≤ b.1 ∧ b.1 ≤ 4096) ∧ (0 ≤ b.2 ∧ b.2 ≤ 4096)
set_option maxRecDepth 100000 in
set_option maxHeartbeats 4000000 in
theorem Tapt_g (l : List (Int × Int)) (A : Option Addr) (c : Nat) {w : World} (hl : BdK.Rd w A c l) (hS : BdS l) (h4 : l.length ≤ 100000) :
  Calls Try.prog 42 #[.slice A l.length c] w (RetB w (aptE l)) := by
 obtain ⟨n, hn⟩ : ∃ n, l.length = n := ⟨_, rfl⟩
 have hM := hid fun (j : Nat) (hj : j < n) (W : World) (hb : Below w.heap.size w W) => (hl.below hb).at_ (j := j) (by omega)
 have cc := Nat.le_trans hl.cap hl.max
 have hSm := hid fun (j : Nat) (hj : j < l.length) => hS _ (List.getElem_mem hj)
 obtain ⟨t, ht⟩ : ∃ t, aptE l = t := ⟨_, rfl⟩
 have hno := hid fun (i : Nat) (h : i + 1 < l.length) (hx : ¬ l[i].1 + l[i].2 < l[i + 1].1) => ht.symm.trans (aptL_no h hx)
 have hyes := hid fun (h : AptI l l.length) => ht.symm.trans (aptL_yes h)
 rw [ht]
 rw [hn] at cc h4 ⊢
 replace hn := hid hn
 clear hl hS ht
 go_enter Try.func42, Try.ntmps42
 go_wp2
 go_loopw [3] (fun s3 wr => ∃ k : Nat, s3 = .int .i64 (k : Int) ∧ 1 ≤ k ∧ Hid (AptI l k) ∧ Below w.heap.size w wr) (fun s3 _ => n - (intOf s3).toNat)
 case atStart => exact ⟨1, rfl, Nat.le_refl _, hid (fun i _ h => by omega), Below.refl _ _⟩
 case round =>
  obtain ⟨k, rfl, hk, hA, HB⟩ := hrel
  by_cases hin : k < n
  ·have hii : (k : Int) < (n : Int) := by omega
   have hkl : k < l.length := by have := hn.out; omega
   obtain ⟨j, rfl⟩ : ∃ j, k = j + 1 := ⟨k - 1, by omega⟩
   obtain ⟨b, o, hA3, hc⟩ := hM.out (j + 1) hin wr HB
   obtain ⟨b', o', hA4, hc'⟩ := hM.out j (by omega) wr HB
   have f0 : wr.cell? ⟨b, o + (j + 1) * 2, none⟩ = some (.int .i64 l[j + 1].1) := hc 0 _ rfl
   subst hA3
   injection hA4 with hA4
   injection hA4 with e1 e2
   subst e1 e2
   have d0 : wr.cell? ⟨b, o + j * 2, none⟩ = some (.int .i64 l[j].1) := hc' 0 _ rfl
   have d1 : wr.cell? ⟨b, o + j * 2 + 1, none⟩ = some (.int .i64 l[j].2) := hc' 1 _ rfl
   have hs1 := hSm.out (j + 1) hkl
   have hs0 := hSm.out j (by omega)
   have hb1 := hid fun (hx : ¬ l[j].1 + l[j].2 < l[j + 1].1) => hno.out j hkl (by omega)
   have hb2 := hid fun (hx : l[j].1 + l[j].2 < l[j + 1].1) => (show AptI l (j + 1 + 1) from fun i h1 h2 => by
    by_cases e : i = j
    ·subst e; exact hx
    ·exact hA.out i h1 (by omega))
   clear hc hc' hM hno hyes hA hSm
   generalize l[j + 1] = z at *
   generalize l[j] = q at *
   obtain ⟨z0, z1⟩ := z
   obtain ⟨q0, q1⟩ := q
   dsimp only at f0 d0 d1 hs1 hs0 hb1 hb2
   have hw1 : IntKind.i64.wrap (((j + 1 : Nat) : Int) - 1) = (j : Int) := by rw [IntKind.wrap_i64]; omega
   have hw2 : IntKind.i64.wrap (q0 + q1) = q0 + q1 := by rw [IntKind.wrap_i64]; omega
   have hji : (j : Int) < (n : Int) := by omega
   have hcast : ((j + 1 : Nat) : Int) = (j : Int) + 1 := by omega
   clear hs1 hs0
   by_cases hx : q0 + q1 < z0
   ·have hA2 := hid (hb2.out hx)
    have hxn : ¬ z0 ≤ q0 + q1 := by omega
    clear hb1 hb2
    go_wp2_with fail
    go_quiet (fail)
    have hv : Below wr.heap.size wr (wr.drewN nq) := below_drewN (Below.refl _ _) _
    generalize wr.drewN nq = w3 at hv ⊢
    replace HB := bel_step HB hv
    clear hv f0 d0 d1 hw1 hw2
    go_wp2
    go_roundw
    case rel => exact ⟨j + 1 + 1, by go_num, by omega, hA2, HB⟩
    case measure => simp [intOf]; omega
   ·obtain rfl := hb1.out (by omega)
    have hxn : z0 ≤ q0 + q1 := by omega
    clear hb1 hb2
    go_wp2_with fail
    go_quiet (fail)
    have hv : Below wr.heap.size wr (wr.drewN nq) := below_drewN (Below.refl _ _) _
    generalize wr.drewN nq = w3 at hv ⊢
    replace HB := bel_step HB hv
    clear hv f0 d0 d1 hw1 hw2
    go_wp2
    go_ret
    exact ⟨rfl, HB⟩
  ·have hii : ¬ (k : Int) < (n : Int) := by omega
   have hyy := hyes.out (fun i h1 h2 => hA.out i h1 (by have := hn.out; omega))
   rw [hn.out] at hyy
   clear hM hno hyes hA hSm
   by_cases h2 : 2 ≤ n
   ·have h2i : (2 : Int) ≤ (n : Int) := by omega
    obtain rfl : t = true := by rw [hyy]; exact decide_eq_true h2
    clear hyy
    go_wp2
    go_ret
    exact ⟨rfl, HB⟩
   ·have h2i : ¬ (2 : Int) ≤ (n : Int) := by omega
    obtain rfl : t = false := by rw [hyy]; exact decide_eq_false h2
    clear hyy
    go_wp2
    go_ret
    exact ⟨rfl, HB⟩
end Go.Proofs.Ytjfgklhifhaaoaa
