/- Reading order: the statement that Sort permutes. Conditions: none. -/
import Derived.Test.YtjdgjhaggpahkaaZLz3
set_option linter.unusedVariables false
set_option linter.unusedSimpArgs false
namespace Go.Proofs.Ytjdgjhaggpahkaa
open Go.RowKit Go.Deep
theorem chk_60 {l : List Bx} {gap : Int} (h : l.length ≤ 60) : chkB l gap = 0 ∨ chkB l gap = 3 := by
 unfold chkB
 rw [if_neg (by omega)]
 split
 ·exact .inr rfl
 ·exact .inl rfl
theorem sortE_cases {l : List Bx} (h : l.length ≤ 60) : (∃ k, sortE l = ([], k) ∧ (k = 3 ∨ k = 31)) ∨ ∃ s, sortE l = (s, 0) ∧ s.length = l.length ∧ OrdB l s := by
 rcases chk_60 (gap := 0) h with e | e
 ·rw [sortE_ok e]
  cases hs : sortB l l.length [] with
  | none => exact .inl ⟨31, rfl, .inr rfl⟩
  | some s => exact .inr ⟨s, rfl, sort_all hs⟩
 ·rw [sortE_bad (by omega), e]
  exact .inl ⟨3, rfl, .inl rfl⟩
set_option maxRecDepth 100000 in
set_option maxHeartbeats 8000000 in
theorem Permutes_law (l : List Bx) (A : Option Addr) (c : Nat) {w : World} (hl : Qb w A c l) :
  Calls Try.prog 6 #[.slice A l.length c] w (RetB w true) := by
 obtain ⟨n, hn⟩ : ∃ n, l.length = n := ⟨_, rfl⟩
 have HB := Below.refl w.heap.size w
 by_cases hbig : n ≤ 60
 ·have hbi : ¬ (60 : Int) < (n : Int) := by omega
  have hM := hid fun (j : Nat) (hj : j < l.length) (W : World) (hb : Below w.heap.size w W) => (hl.below hb).at_ (k := j) hj
  rcases sortE_cases (l := l) (by omega) with ⟨k, hs, hk⟩ | ⟨s, hs, hsn, ho⟩
  ·have HG := hid fun (W : World) (hb : Below w.heap.size w W) => (show Calls Try.prog 12 #[.slice A l.length c] W (RetOE W ([], k)) from by rw [← hs]; exact GSort_g l A c (hl.below hb))
   rw [hn] at HG ⊢
   clear hM hl hs hn
   go_enter Try.func6, Try.ntmps6
   go_wp2_with fail
   refine (HG.out _ HB).mono ?_
   rintro e w2 ⟨v1, rfl, z1, hb⟩
   replace HB := bel_step HB hb
   clear hb HG
   obtain ⟨A1, c1, rfl, -, -⟩ := z1.form
   clear z1
   rcases hk with rfl | rfl
   all_goals
    go_wp2_with fail
    refine (examples_ok _).mono ?_
    rintro e w8 ⟨rfl, hb⟩
    replace HB := bel_step HB hb
    clear hb
    go_wp2
    go_ret
    exact ⟨rfl, HB⟩
  ·have HG := hid fun (W : World) (hb : Below w.heap.size w W) => (show Calls Try.prog 12 #[.slice A l.length c] W (RetOE W (s, 0)) from by rw [← hs]; exact GSort_g l A c (hl.below hb))
   have hbef := hid fun (i k : Nat) (hi : i < s.length) (hk : k < i) => (show befB (l.getD s[i] default) (l.getD (s[k]'(by omega)) default) = false from List.pairwise_iff_getElem.1 ho.bef k i (by omega) hi hk)
   have hlt := hid fun (i : Nat) (hi : i < s.length) => ho.lt _ (List.getElem_mem hi)
   have hO := hid fun (v : Value) (W : World) (h : Zs W v s) => Lonce_g s v n h (by omega) (by omega) ho.nd (fun i hi => by rw [← hn]; exact ho.lt i hi)
   replace hsn := hid (hsn.trans hn)
   rw [hn] at HG ⊢
   replace hn := hid hn
   clear hl hs ho
   go_enter Try.func6, Try.ntmps6
   go_wp2_with fail
   refine (HG.out _ HB).mono ?_
   rintro e w2 ⟨v1, rfl, z1, hb⟩
   replace HB := bel_step HB hb
   clear hb HG
   obtain ⟨A1, c1, rfl, -, -⟩ := z1.form
   have hS := hid fun (j : Nat) (hj : j < s.length) (W : World) (hb : Below w2.heap.size w2 W) => (z1.below hb).at_ (j := j) hj
   have HW := Below.refl w2.heap.size w2
   have hO2 := hid (hO.out _ _ z1)
   dsimp only at hO2
   rw [hsn.out] at hO2 ⊢
   clear z1 hO
   go_wp2_with fail
   refine (hO2.out).mono ?_
   rintro e w3 ⟨rfl, hb⟩
   replace HB := bel_step HB hb
   replace HW := bel_step HW hb
   clear hb hO2
   go_wp2_with fail
   go_loopw [39] (fun s39 wr => ∃ i : Nat, s39 = .int .i64 i ∧ i ≤ n ∧ Below w.heap.size w wr ∧ Below w2.heap.size w2 wr) (fun s39 _ => n - (intOf s39).toNat)
   case atStart => exact ⟨0, rfl, by omega, HB, HW⟩
   case round =>
    clear HB HW
    obtain ⟨i, rfl, hi, HB, HW⟩ := hrel
    by_cases hin : i < n
    ·have hii : (i : Int) < (n : Int) := by omega
     obtain ⟨b, o, hA1, -⟩ := hM.out i (by have := hn.out; omega) wr HB
     subst hA1
     obtain ⟨g, q, hA2, -⟩ := hS.out i (by have := hsn.out; omega) wr HW
     subst hA2
     have hc1 : ((i : Int) ≤ (n : Int)) := by omega
     go_wp2
     go_loopw [43] (fun s43 wr => ∃ k : Nat, s43 = .int .i64 k ∧ k ≤ i ∧ Below w.heap.size w wr ∧ Below w2.heap.size w2 wr) (fun s43 _ => i - (intOf s43).toNat)
     case atStart => exact ⟨0, rfl, by omega, HB, HW⟩
     case round =>
      clear HB HW
      obtain ⟨k, rfl, hk, HB, HW⟩ := hrel
      by_cases hki : k < i
      ·have hkk : (k : Int) < (i : Int) := by omega
       have hkn : (k : Int) < (n : Int) := by omega
       have hil : i < s.length := by have := hsn.out; omega
       have hkl : k < s.length := by have := hsn.out; omega
       obtain ⟨_, _, e, ca⟩ := hS.out i hil wr HW
       cases e
       obtain ⟨_, _, e, cb⟩ := hS.out k hkl wr HW
       cases e
       have la := hlt.out i hil
       have lb := hlt.out k hkl
       have hB := hbef.out i k hil hki
       generalize s[i] = x at *
       generalize s[k] = y at *
       obtain ⟨_, _, e, e0, e1, e2, e3⟩ := hM.out x la wr HB
       cases e
       obtain ⟨_, _, e, f0, f1, f2, f3⟩ := hM.out y lb wr HB
       cases e
       have hd1 : l.getD x default = l[x] := by simp [la]
       have hd2 : l.getD y default = l[y] := by simp [lb]
       rw [hd1, hd2] at hB
       generalize l[x] = q1 at *
       generalize l[y] = q2 at *
       have HBf := hid fun (W : World) => (show Calls Try.prog 14 #[.agg #[.int .i64 q1.x, .int .i64 q1.y, .int .i64 q1.w, .int .i64 q1.h], .agg #[.int .i64 q2.x, .int .i64 q2.y, .int .i64 q2.w, .int .i64 q2.h]] W (RetB W false) from by rw [← hB]; exact GBefore_g q1 q2 W)
       have hx : (x : Int) < (n : Int) := by have := hn.out; omega
       have hy : (y : Int) < (n : Int) := by have := hn.out; omega
       unfold intV at ca cb
       obtain ⟨q1x, q1y, q1w, q1h⟩ := q1
       obtain ⟨q2x, q2y, q2w, q2h⟩ := q2
       dsimp only at e0 e1 e2 e3 f0 f1 f2 f3 HBf
       clear hd1 hd2 hB hM hS hbef hlt la lb hil hkl
       go_upto_region 14 with fail
       go_region_held3 (fun w' => (w'.cell? ⟨g, q + i, none⟩ = some (.int .i64 (x : Int)) ∧ w'.cell? ⟨g, q + k, none⟩ = some (.int .i64 (y : Int))) ∧ ((w'.cell? ⟨b, o + x * 4, none⟩ = some (.int .i64 q1x) ∧ w'.cell? ⟨b, o + x * 4 + 1, none⟩ = some (.int .i64 q1y)) ∧ (w'.cell? ⟨b, o + x * 4 + 2, none⟩ = some (.int .i64 q1w) ∧ w'.cell? ⟨b, o + x * 4 + 3, none⟩ = some (.int .i64 q1h))) ∧ ((w'.cell? ⟨b, o + y * 4, none⟩ = some (.int .i64 q2x) ∧ w'.cell? ⟨b, o + y * 4 + 1, none⟩ = some (.int .i64 q2y)) ∧ (w'.cell? ⟨b, o + y * 4 + 2, none⟩ = some (.int .i64 q2w) ∧ w'.cell? ⟨b, o + y * 4 + 3, none⟩ = some (.int .i64 q2h)))) (first | ((try dsimp only); repeat' (first | with_reducible assumption | apply And.intro | (with_reducible refine keep_alloc ?_) | (with_reducible refine keep_drew ?_) | (with_reducible refine keep_set (by omega) ?_) | (with_reducible refine keep_sets (by omega) ?_) | (with_reducible refine keep_cell (W := wr) ?_ ?_) | fail))) (first | (go_at_call 14; (with_reducible refine (HBf.out _).mono ?_); rintro e v4 ⟨rfl, hq_⟩; have qv4 : Below wr.heap.size wr v4 := bel_step BG hq_))
       all_goals
        replace HB := bel_step HB qv4
        replace HW := bel_step HW qv4
        clear qv4 e0 e1 e2 e3 f0 f1 f2 f3 HBf ca cb hx hy
        go_wp2
        go_roundw
        case rel => exact ⟨k + 1, by go_num, by omega, HB, HW⟩
        case measure => simp [intOf]; omega
      ·obtain rfl : k = i := by omega
       have hkk : ¬ (k : Int) < (k : Int) := by omega
       go_wp2
       go_roundw
       case rel => exact ⟨k + 1, by go_num, by omega, HB, HW⟩
       case measure => simp [intOf]; omega
    ·obtain rfl : i = n := by omega
     have hii : ¬ (i : Int) < (i : Int) := by omega
     clear hM hS hbef hlt
     go_wp2_with fail
     refine (examples_ok _).mono ?_
     rintro e w8 ⟨rfl, hb⟩
     replace HB := bel_step HB hb
     clear hb
     go_wp2
     go_ret
     exact ⟨rfl, HB⟩
 ·have hbi : (60 : Int) < (n : Int) := by omega
  rw [hn]
  clear hl hn
  go_enter Try.func6, Try.ntmps6
  go_wp2_with fail
  refine (examples_ok _).mono ?_
  rintro e w8 ⟨rfl, hb⟩
  replace HB := bel_step HB hb
  clear hb
  go_wp2
  go_ret
  exact ⟨rfl, HB⟩
end Go.Proofs.Ytjdgjhaggpahkaa
