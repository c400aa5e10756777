/- Reading order: lists compared, few boxes, each index once. Conditions: none beyond the sizes. -/
import Derived.Test.YtjdgjhaggpahkaaZRw6
set_option linter.unusedVariables false
set_option linter.unusedSimpArgs false
namespace Go.Proofs.Ytjdgjhaggpahkaa
open Go.RowKit Go.Deep
theorem Zs.at_ {w : World} {A : Option Addr} {n c : Nat} {l : List Nat} (h : Zs w (.slice A n c) l) {j : Nat} (hj : j < l.length) : ∃ g o, A = some ⟨g, o, none⟩ ∧ w.cell? ⟨g, o + j, none⟩ = some (intV l[j]) := by
 obtain ⟨A', c', e, _, _, h3⟩ := h.ex
 injection e with e1 e2 e3
 subst e1
 obtain ⟨g, o, e2, _, h5⟩ := h3 (by omega)
 exact ⟨g, o, e2, h5 j hj⟩
theorem Zs.form {w : World} {v : Value} {l : List Nat} (h : Zs w v l) : ∃ A c, v = .slice A l.length c ∧ l.length ≤ c ∧ c ≤ 9223372036854775807 := by
 obtain ⟨A, c, e, h1, h2, _⟩ := h.ex
 exact ⟨A, c, e, h1, h2⟩
theorem eq_no {l m : List Nat} {i : Nat} (h1 : i < l.length) (h2 : i < m.length) (h : l[i] ≠ m[i]) : (l == m) = false := beq_eq_false_iff_ne.2 fun e => h (by subst e; rfl)
theorem eq_yes {l m : List Nat} (hn : l.length = m.length) (h : ∀ i (h1 : i < l.length) (h2 : i < m.length), l[i] = m[i]) : (l == m) = true := beq_iff_eq.2 (List.ext_getElem hn h)
set_option maxHeartbeats 2000000 in
theorem Lints_g (l m : List Nat) (v u : Value) {w : World} (hl : Zs w v l) (hm : Zs w u m) :
  Calls Try.prog 16 #[v, u] w (RetB w (l == m)) := by
 obtain ⟨A, c, rfl, hc1, hc2⟩ := hl.form
 obtain ⟨B, d, rfl, hd1, hd2⟩ := hm.form
 obtain ⟨R, hR⟩ : ∃ R, (l == m) = R := ⟨_, rfl⟩
 obtain ⟨n, hn⟩ : ∃ n, l.length = n := ⟨_, rfl⟩
 obtain ⟨k, hk⟩ : ∃ k, m.length = k := ⟨_, rfl⟩
 have hM := hid fun (j : Nat) (hj : j < n) (W : World) (hb : Below w.heap.size w W) => (hl.below hb).at_ (j := j) (by omega)
 have hN := hid fun (j : Nat) (hj : j < k) (W : World) (hb : Below w.heap.size w W) => (hm.below hb).at_ (j := j) (by omega)
 have E0 := hid fun (h : n ≠ k) => (show R = false from by rw [← hR]; exact beq_eq_false_iff_ne.2 fun e => h (by rw [← hn, ← hk, e]))
 have E1 := hid fun (j : Nat) (h1 : j < l.length) (h2 : j < m.length) (h : l[j] ≠ m[j]) => (show R = false from by rw [← hR]; exact eq_no h1 h2 h)
 have E2 := hid fun (h : n = k) (h : ∀ i (h1 : i < l.length) (h2 : i < m.length), l[i] = m[i]) => (show R = true from by rw [← hR]; exact eq_yes (by omega) h)
 rw [hn] at hc1 ⊢
 rw [hk] at hd1 ⊢
 rw [hR]
 have HB := Below.refl w.heap.size w
 replace hn := hid hn
 replace hk := hid hk
 clear hl hm hR
 go_enter Try.func16, Try.ntmps16
 by_cases hnk : n = k
 ·subst hnk
  replace E2 := hid (E2.out rfl)
  clear E0
  go_wp2
  go_loopw [13] (fun s13 wr => ∃ j : Nat, s13 = .int .i64 j ∧ j ≤ n ∧ Hid (∀ i (h1 : i < l.length) (h2 : i < m.length), i < j → l[i] = m[i]) ∧ Below w.heap.size w wr) (fun s13 _ => n - (intOf s13).toNat)
  case atStart => exact ⟨0, rfl, by omega, fun i _ _ h => by omega, HB⟩
  case round =>
   clear HB
   obtain ⟨j, rfl, hj, hA, HB⟩ := hrel
   by_cases hjn : j < n
   ·have hjj : (j : Int) < (n : Int) := by omega
    have hjl : j < l.length := by have := hn.out; omega
    have hjm : j < m.length := by have := hk.out; omega
    obtain ⟨b, o, hA1, e0⟩ := hM.out j hjn wr HB
    subst hA1
    obtain ⟨b2, o2, hA2, f0⟩ := hN.out j hjn wr HB
    subst hA2
    unfold intV at e0 f0
    have hno := hid (E1.out j hjl hjm)
    have hst := hid fun (h : l[j] = m[j]) (i : Nat) (h1 : i < l.length) (h2 : i < m.length) (hi : i < j + 1) => (show l[i] = m[i] from by
     by_cases e : i = j
     ·subst e; exact h
     ·exact hA.out i h1 h2 (by omega))
    generalize l[j] = x at *
    generalize m[j] = y at *
    clear hM hN hA
    by_cases hxy : x = y
    ·subst hxy
     have hA2 := hid (hst.out rfl)
     clear hno hst E1 E2
     go_upto_region 6 with fail
     go_quiet (fail)
     have hv : Below wr.heap.size wr (wr.drewN nq) := below_drewN (Below.refl _ _) _
     generalize hvq : wr.drewN nq = v2 at hv ⊢
     replace HB := bel_step HB hv
     clear hvq hv e0 f0
     go_wp2
     go_roundw
     case rel => exact ⟨j + 1, by go_num, by omega, hA2, HB⟩
     case measure => simp [intOf]; omega
    ·obtain rfl := hno.out hxy
     have hne : ((x : Int) == (y : Int)) = false := beq_eq_false_iff_ne.2 (by omega)
     have hne2 : ((x : Int) != (y : Int)) = true := by simp [bne, hne]
     clear hno hst E1 E2
     go_upto_region 6 with fail
     go_quiet (fail)
     have hv : Below wr.heap.size wr (wr.drewN nq) := below_drewN (Below.refl _ _) _
     generalize hvq : wr.drewN nq = v2 at hv ⊢
     replace HB := bel_step HB hv
     clear hvq hv e0 f0
     go_wp2
     go_ret
     exact ⟨rfl, HB⟩
   ·obtain rfl : j = n := by omega
    have hjj : ¬ (j : Int) < (j : Int) := by omega
    obtain rfl := E2.out (fun i h1 h2 => hA.out i h1 h2 (by have := hn.out; omega))
    clear hM hN E1 E2 hA
    go_wp2
    go_ret
    exact ⟨rfl, HB⟩
 ·obtain rfl := E0.out hnk
  have hne : ((n : Int) == (k : Int)) = false := beq_eq_false_iff_ne.2 (by omega)
  have hne2 : ((n : Int) != (k : Int)) = true := by simp [bne, hne]
  clear E0 E1 E2 hM hN
  go_wp2
  go_ret
  exact ⟨rfl, HB⟩
def fewB (n : Nat) : Bool := decide (n ≤ 60 ∨ 4096 < n)
set_option maxHeartbeats 1000000 in
theorem Lfew_g (n : Nat) (A : Option Addr) (c : Nat) (hc : n ≤ c) (hm : c ≤ 9223372036854775807) (w : World) :
  Calls Try.prog 10 #[.slice A n c] w (RetB w (fewB n)) := by
 obtain ⟨R, hR⟩ : ∃ R, fewB n = R := ⟨_, rfl⟩
 have H := hid hR
 rw [hR]
 clear hR
 have HB := Below.refl w.heap.size w
 go_enter Try.func10, Try.ntmps10
 by_cases h1 : n ≤ 60
 ·obtain rfl : true = R := by rw [← H.out]; exact (decide_eq_true (Or.inl h1)).symm
  have hi : (n : Int) ≤ 60 := by omega
  clear H
  go_wp2
  go_ret
  exact ⟨rfl, HB⟩
 ·have hi : ¬ (n : Int) ≤ 60 := by omega
  by_cases h2 : 4096 < n
  ·obtain rfl : true = R := by rw [← H.out]; exact (decide_eq_true (Or.inr h2)).symm
   have hj : (4096 : Int) < (n : Int) := by omega
   clear H
   go_wp2
   go_ret
   exact ⟨rfl, HB⟩
  ·obtain rfl : false = R := by rw [← H.out]; exact (decide_eq_false (by omega)).symm
   have hj : ¬ (4096 : Int) < (n : Int) := by omega
   clear H
   go_wp2
   go_ret
   exact ⟨rfl, HB⟩
theorem tk_take (l : List Nat) (i : Nat) (h : i < l.length) (j : Nat) : (if j = l[i] then Value.bool true else tkF (l.take i) j) = tkF (l.take (i + 1)) j := by
 rw [List.take_succ_eq_append_getElem h]
 exact tkF_step _ _ _
set_option maxHeartbeats 2000000 in
theorem Lonce_g (l : List Nat) (v : Value) (n : Nat) {w : World} (hl : Zs w v l) (hn : l.length = n) (h4 : n ≤ 4096) (hd : l.Nodup) (hlt : ∀ i ∈ l, i < n) :
  Calls Try.prog 22 #[v, .int .i64 (n : Int)] w (RetB w true) := by
 obtain ⟨A, c, rfl, hc1, hc2⟩ := hl.form
 have hM := hid fun (j : Nat) (hj : j < n) (W : World) (hb : Below w.heap.size w W) => (hl.below hb).at_ (j := j) (by omega)
 have hS := hid fun (i : Nat) (h : i < l.length) => (show l[i] < n ∧ (l.take i).contains l[i] = false from ⟨hlt _ (List.getElem_mem h), by
  have h1 := hd
  rw [← List.take_append_drop i l, List.nodup_append] at h1
  cases hq : (l.take i).contains l[i]
  ·rfl
  ·have h2 : l[i] ∈ l.take i := by simpa using hq
   have h3 : l[i] ∈ l.drop i := List.mem_drop_iff_getElem.2 ⟨0, by omega, by simp⟩
   exact absurd rfl (h1.2.2 _ h2 _ h3)⟩)
 have hT0 := World.rowIs_made w (.bool false) n 4
 have hmk := run_make_row' (P := Try.prog) 46 4 (.bool false) 1 Try.underlying46 infoBool rfl .i64 .i64 n (by omega) (by omega)
 have HB : Below w.heap.size w (w.alloc (.cells (madeCells #[.bool false] n) 4)) := (Below.refl _ _).alloc (Nat.le_refl _) _
 have hl0 : w.heap.size < (w.alloc (.cells (madeCells #[.bool false] n) 4)).heap.size := by simp
 rw [hn] at hc1 ⊢
 replace hn := hid hn
 clear hl hd hlt
 go_enter Try.func22, Try.ntmps22
 go_wp2
 go_loopw [16] (fun s16 wr => ∃ i : Nat, s16 = .int .i64 i ∧ i ≤ n ∧ wr.rowIs w.heap.size 4 n (tkF (l.take i)) ∧ Below w.heap.size w wr) (fun s16 _ => n - (intOf s16).toNat)
 case atStart => exact ⟨0, rfl, by omega, hT0, HB⟩
 case round =>
  clear HB hT0 hl0
  obtain ⟨i, rfl, hi, hT, HB⟩ := hrel
  by_cases hin : i < n
  ·have hii : (i : Int) < (n : Int) := by omega
   have hil : i < l.length := by have := hn.out; omega
   obtain ⟨b, o, hA1, e0⟩ := hM.out i hin wr HB
   subst hA1
   unfold intV at e0
   obtain ⟨h1, h2⟩ := hS.out i hil
   have hr2 := hid ((hT.set l[i] (.bool true)).congr (g := tkF (l.take (i + 1))) (fun j _ => tk_take l i hil j))
   have c0 := hT.cell h1
   unfold tkF at c0
   rw [h2] at c0
   have fz := hT.frozen
   have ltg := hT.lt
   clear h2 hT
   generalize l[i] = x at *
   have hb2 := hid (below_set HB (Nat.le_refl _) x (.bool true))
   have hx0 : ¬ (x : Int) < 0 := by omega
   have hx1 : ¬ (n : Int) ≤ (x : Int) := by omega
   have hx2 : (x : Int) < (n : Int) := by omega
   clear hM hS HB
   go_wp2
   go_roundw
   case rel => exact ⟨i + 1, by go_num, by omega, hr2.out, hb2.out⟩
   case measure => simp [intOf]; omega
  ·obtain rfl : i = n := by omega
   have hii : ¬ (i : Int) < (i : Int) := by omega
   clear hM hS hT
   go_wp2
   go_ret
   exact ⟨rfl, HB⟩
end Go.Proofs.Ytjdgjhaggpahkaa
