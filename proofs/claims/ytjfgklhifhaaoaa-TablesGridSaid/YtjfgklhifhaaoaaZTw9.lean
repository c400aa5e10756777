/- Tables: a run among the runs of a row, by binary search. Conditions: ascending runs, at most 4096. -/
import Derived.Test.YtjfgklhifhaaoaaZTc1
set_option linter.unusedVariables false
set_option linter.unusedSimpArgs false
namespace Go.Proofs.Ytjfgklhifhaaoaa
open Go.RowKit
theorem Cct1_g (a b : Nat) (x : Int) (w : World) : Calls Try.prog 48 #[.agg #[.int .i64 (a : Int), .int .i64 (b : Int)], .int .i64 x] w (RetI w (cmp1 a x)) := by
 have H1 := hid fun (W : World) => Compare_w (a : Int) x W
 generalize cmp1 (a : Int) x = k at *
 go_enter Try.func48, Try.ntmps48
 go_upto_region 1 with fail
 refine enterR (P := fun u => Code.wp _ _ _ _ u) (c := [.int .i64 (a : Int), .int .i64 (b : Int)]) ?_
 intro u HB r0 zn0 hsz
 have c0 : u.cell? ⟨w.heap.size, 0, none⟩ = some (.int .i64 (a : Int)) := r0 0 _ rfl
 clear hsz zn0 r0
 go_wp2_with fail
 refine (H1.out u).mono ?_
 rintro e v ⟨rfl, rfl⟩
 clear H1 c0
 go_wp2
 go_ret
 exact ⟨rfl, HB⟩
/-- what the search keeps -/
structure Bnd (l : List (Nat × Nat)) (x : Int) (lo hi : Nat) : Prop where
 a : ∀ j (h : j < l.length), j < lo → (l[j].1 : Int) < x
 b : ∀ j (h : j < l.length), hi ≤ j → x ≤ (l[j].1 : Int)
theorem Bnd.up {l : List (Nat × Nat)} {x : Int} {lo hi m : Nat} (hs : l.Pairwise fun r s => r.1 < s.1) (h : Bnd l x lo hi) (hm : m < l.length) (hx : (l[m].1 : Int) < x) : Bnd l x (m + 1) hi := ⟨fun j h1 h2 => by
 by_cases e : j = m
 ·subst e; exact hx
 ·have := List.pairwise_iff_getElem.1 hs j m h1 hm (by omega)
  omega, h.b⟩
theorem Bnd.down {l : List (Nat × Nat)} {x : Int} {lo hi m : Nat} (hs : l.Pairwise fun r s => r.1 < s.1) (h : Bnd l x lo hi) (hm : m < l.length) (hx : ¬ (l[m].1 : Int) < x) : Bnd l x lo m := ⟨h.a, fun j h1 h2 => by
 by_cases e : j = m
 ·subst e; omega
 ·have := List.pairwise_iff_getElem.1 hs m j hm h1 (by omega)
  omega⟩
/-- what the search answers -/
def BsA (l : List (Nat × Nat)) (x : Int) (i : Nat) (t : Bool) : Prop := i ≤ l.length ∧ Bnd l x i i ∧ (t = true ↔ ∃ h : i < l.length, (l[i].1 : Int) = x)
def RetBs (l : List (Nat × Nat)) (x : Int) (w : World) (e : Ending) (w' : World) : Prop := ∃ (i : Nat) (t : Bool), e = .returned (.tuple #[.int .i64 (i : Int), .bool t]) ∧ BsA l x i t ∧ Below w.heap.size w w'
theorem cmp1_lt {a b : Int} : cmp1 a b < 0 ↔ a < b := by unfold cmp1; split <;> (try split) <;> omega
theorem cmp1_eq {a b : Int} : cmp1 a b = 0 ↔ a = b := by unfold cmp1; split <;> (try split) <;> omega
set_option maxHeartbeats 4000000 in
theorem Bsf_g (l : List (Nat × Nat)) (A : Option Addr) (c : Nat) (x : Int) {w : World} (hl : RnK.Rd w A c l) (hs : l.Pairwise fun r s => r.1 < s.1) (h4 : l.length ≤ 5000) :
  Calls Try.prog 47 #[.slice A l.length c, .int .i64 x, .func (.func 48) #[] #[]] w (RetBs l x w) := by
 obtain ⟨n, hn⟩ : ∃ n, l.length = n := ⟨_, rfl⟩
 have hM := hid fun (j : Nat) (hj : j < n) (W : World) (hb : Below w.heap.size w W) => (hl.below hb).at_ (j := j) (by omega)
 have cc := Nat.le_trans hl.cap hl.max
 have hU := hid fun (lo hi m : Nat) (h : Bnd l x lo hi) (hm : m < l.length) (hx : (l[m].1 : Int) < x) => h.up hs hm hx
 have hDn := hid fun (lo hi m : Nat) (h : Bnd l x lo hi) (hm : m < l.length) (hx : ¬ (l[m].1 : Int) < x) => h.down hs hm hx
 have h0 := hid (show Bnd l x 0 l.length from ⟨fun j _ h => by omega, fun j h1 h2 => by omega⟩)
 rw [hn] at cc h4 h0 ⊢
 replace hn := hid hn
 clear hl hs
 go_enter Try.func47, Try.ntmps47
 go_wp2
 go_loopw [9, 10] (fun s9 s10 wr => ∃ lo hi : Nat, s9 = .int .i64 lo ∧ s10 = .int .i64 hi ∧ lo ≤ hi ∧ hi ≤ n ∧ Hid (Bnd l x lo hi) ∧ Below w.heap.size w wr) (fun s9 s10 _ => (intOf s10).toNat - (intOf s9).toNat)
 case atStart => exact ⟨0, n, rfl, rfl, by omega, by omega, h0, Below.refl _ _⟩
 case round =>
  clear h0
  obtain ⟨lo, hi, rfl, rfl, hlh, hin, hB, HB⟩ := hrel
  by_cases hlt : lo < hi
  ·have hmn : (lo + hi) / 2 < n := by omega
   have hml : (lo + hi) / 2 < l.length := by have := hn.out; omega
   obtain ⟨b, o, hA3, hc⟩ := hM.out _ hmn wr HB
   have f0 : wr.cell? ⟨b, o + (lo + hi) / 2 * 2, none⟩ = some (.int .i64 (l[(lo + hi) / 2].1 : Int)) := hc 0 _ rfl
   have f1 : wr.cell? ⟨b, o + (lo + hi) / 2 * 2 + 1, none⟩ = some (.int .i64 (l[(lo + hi) / 2].2 : Int)) := hc 1 _ rfl
   subst hA3
   clear hc
   have q1 := hid fun hx => hU.out lo hi _ hB.out hml hx
   have q2 := hid fun hx => hDn.out lo hi _ hB.out hml hx
   have hli : (lo : Int) < (hi : Int) := by omega
   generalize l[(lo + hi) / 2] = z at *
   obtain ⟨z0, z1⟩ := z
   dsimp only at f0 f1 q1 q2
   have H1 := hid fun (W : World) => Cct1_g z0 z1 x W
   have hq := hid (cmp1_lt (a := (z0 : Int)) (b := x))
   obtain ⟨k, hk⟩ : ∃ k, cmp1 (z0 : Int) x = k := ⟨_, rfl⟩
   rw [hk] at H1 hq
   clear hk hM hU hDn hB
   go_wp2_with fail
   refine (H1.out wr).mono ?_
   rintro e v ⟨rfl, hv⟩
   replace HB := bel_step HB hv
   clear H1 hv f0 f1
   by_cases hk : k < 0
   ·have hB2 := hid (q1.out (by have := hq.out; omega))
    clear q1 q2 hq
    go_wp2
    go_roundw
    case rel => exact ⟨(lo + hi) / 2 + 1, hi, by go_num, by go_num, by omega, by omega, hB2, HB⟩
    case measure => simp [intOf]; omega
   ·have hB2 := hid (q2.out (by have := hq.out; omega))
    clear q1 q2 hq
    go_wp2
    go_roundw
    case rel => exact ⟨lo, (lo + hi) / 2, by go_num, by go_num, by omega, by omega, hB2, HB⟩
    case measure => simp [intOf]; omega
  ·obtain rfl : lo = hi := by omega
   have hli : ¬ (lo : Int) < (lo : Int) := by omega
   by_cases hz : lo < n
   ·have hzi : (lo : Int) < (n : Int) := by omega
    have hzl : lo < l.length := by have := hn.out; omega
    obtain ⟨b, o, hA3, hc⟩ := hM.out _ hz wr HB
    have f0 : wr.cell? ⟨b, o + lo * 2, none⟩ = some (.int .i64 (l[lo].1 : Int)) := hc 0 _ rfl
    have f1 : wr.cell? ⟨b, o + lo * 2 + 1, none⟩ = some (.int .i64 (l[lo].2 : Int)) := hc 1 _ rfl
    subst hA3
    clear hc
    have hA := hid fun (t : Bool) (ht : t = true ↔ (l[lo].1 : Int) = x) => (show BsA l x lo t from ⟨by omega, hB.out, ht.trans ⟨fun h => ⟨hzl, h⟩, fun ⟨_, h⟩ => h⟩⟩)
    generalize l[lo] = z at *
    obtain ⟨z0, z1⟩ := z
    dsimp only at f0 f1 hA
    have H1 := hid fun (W : World) => Cct1_g z0 z1 x W
    have hq := hid (cmp1_eq (a := (z0 : Int)) (b := x))
    obtain ⟨k, hk⟩ : ∃ k, cmp1 (z0 : Int) x = k := ⟨_, rfl⟩
    rw [hk] at H1 hq
    clear hk hM hU hDn hB
    go_wp2_with fail
    refine (H1.out wr).mono ?_
    rintro e v ⟨rfl, hv⟩
    replace HB := bel_step HB hv
    clear H1 hv f0 f1
    by_cases hk : k = 0
    ·have hf := hid (hA.out true ⟨fun _ => hq.out.1 hk, fun _ => rfl⟩)
     clear hA hq
     subst hk
     go_wp2
     refine bodyPost_ret (v := .tuple #[.int .i64 (lo : Int), .bool true]) ?_ rfl ?_
     ·simp [results, Try.results47, go_sem]
     ·exact ⟨lo, true, rfl, hf.out, HB⟩
    ·have hf := hid (hA.out false ⟨fun h => (by cases h), fun h => absurd (hq.out.2 h) hk⟩)
     have hkb : (k == 0) = false := beq_eq_false_iff_ne.2 hk
     clear hA hq
     go_wp2
     refine bodyPost_ret (v := .tuple #[.int .i64 (lo : Int), .bool false]) ?_ rfl ?_
     ·simp [results, Try.results47, go_sem]
     ·exact ⟨lo, false, rfl, hf.out, HB⟩
   ·have hzi : ¬ (lo : Int) < (n : Int) := by omega
    have hf := hid (show BsA l x lo false from ⟨by have := hn.out; omega, hB.out, ⟨fun h => (by cases h), fun ⟨h, _⟩ => absurd h (by have := hn.out; omega)⟩⟩)
    clear hM hU hDn hB
    go_wp2
    refine bodyPost_ret (v := .tuple #[.int .i64 (lo : Int), .bool false]) ?_ rfl ?_
    ·simp [results, Try.results47, go_sem]
    ·exact ⟨lo, false, rfl, hf.out, HB⟩
theorem BsA.mem {l : List (Nat × Nat)} {r : Nat × Nat} {i : Nat} {t : Bool} (hs : l.Pairwise fun r s => r.1 < s.1) (h : BsA l (r.1 : Int) i t) : r ∈ l ↔ t = true ∧ ∃ h : i < l.length, l[i] = r := by
 obtain ⟨h1, h2, h3⟩ := h
 constructor
 ·intro hr
  obtain ⟨j, hj, e⟩ := List.getElem_of_mem hr
  have hij : i ≤ j := by
   rcases Nat.lt_or_ge j i with h | h
   ·have := h2.a j hj h
    rw [e] at this; omega
   ·exact h
  have hji : i = j := by
   rcases Nat.lt_or_ge i j with h | h
   ·have a1 := List.pairwise_iff_getElem.1 hs i j (by omega) hj h
    have a2 := h2.b i (by omega) (Nat.le_refl _)
    rw [e] at a1; omega
   ·omega
  subst hji
  exact ⟨h3.2 ⟨hj, by rw [e]⟩, hj, e⟩
 ·rintro ⟨_, h, e⟩
  rw [← e]; exact List.getElem_mem h
set_option maxRecDepth 100000 in
set_option maxHeartbeats 4000000 in
theorem Tcon_g (l : List (Nat × Nat)) (A : Option Addr) (c : Nat) (r : Nat × Nat) {w : World} (hl : RnK.Rd w A c l) (hs : l.Pairwise fun r s => r.1 < s.1) (h4 : l.length ≤ 5000) :
  Calls Try.prog 35 #[.slice A l.length c, .agg #[.int .i64 (r.1 : Int), .int .i64 (r.2 : Int)]] w (RetB w (decide (r ∈ l))) := by
 obtain ⟨n, hn⟩ : ∃ n, l.length = n := ⟨_, rfl⟩
 obtain ⟨R, hR⟩ : ∃ R, decide (r ∈ l) = R := ⟨_, rfl⟩
 have hM := hid fun (j : Nat) (hj : j < n) (W : World) (hb : Below w.heap.size w W) => (hl.below hb).at_ (j := j) (by omega)
 have cc := Nat.le_trans hl.cap hl.max
 have HS := hid fun (W : World) (hb : Below w.heap.size w W) => Bsf_g l A c (r.1 : Int) (hl.below hb) hs h4
 have hm := hid fun (i : Nat) (t : Bool) (h : BsA l (r.1 : Int) i t) => BsA.mem hs h
 have hle := hid fun (i : Nat) (t : Bool) (h : BsA l (r.1 : Int) i t) => h.1
 have ht := hid fun (i : Nat) (h : BsA l (r.1 : Int) i true) => h.2.2.1 rfl
 rw [hR]
 have hRt := hid fun (h : r ∈ l) => hR.symm.trans (decide_eq_true h)
 have hRf := hid fun (h : ¬ r ∈ l) => hR.symm.trans (decide_eq_false h)
 rw [hn] at cc HS h4 ⊢
 replace hn := hid hn
 clear hl hs hR
 obtain ⟨r0, r1⟩ := r
 dsimp only at HS hm hle ht ⊢
 go_enter Try.func35, Try.ntmps35
 go_upto_region 1 with fail
 refine enterR (P := fun u => Code.wp _ _ _ _ u) (c := [.int .i64 (r0 : Int), .int .i64 (r1 : Int)]) ?_
 intro u HB rg zn0 hsz
 have c0 : u.cell? ⟨w.heap.size, 0, none⟩ = some (.int .i64 (r0 : Int)) := rg 0 _ rfl
 have c1 : u.cell? ⟨w.heap.size, 1, none⟩ = some (.int .i64 (r1 : Int)) := rg 1 _ rfl
 clear hsz zn0 rg
 go_wp2_with fail
 refine (HS.out u HB).mono ?_
 rintro e v ⟨i, t, rfl, hA, hv⟩
 have c0 := keep_cell hv c0
 have c1 := keep_cell hv c1
 replace HB := bel_step HB hv
 clear HS hv
 cases t
 ·obtain rfl := hRf.out (fun h => by have := ((hm.out i false hA).1 h).1; cases this)
  clear hM hm hle ht hRt hRf hA
  go_wp2_with fail
  go_quiet (fail)
  have hv : Below v.heap.size v (v.drewN nq) := below_drewN (Below.refl _ _) _
  generalize v.drewN nq = x at hv ⊢
  replace HB := bel_step HB hv
  go_wp2
  go_ret
  exact ⟨rfl, HB⟩
 ·obtain ⟨hil, hle0⟩ := ht.out i hA
  have hin : i < n := by have := hn.out; omega
  have hini : (i : Int) < (n : Int) := by omega
  obtain ⟨b, o, hA3, hc⟩ := hM.out i hin v HB
  have f0 : v.cell? ⟨b, o + i * 2, none⟩ = some (.int .i64 (l[i].1 : Int)) := hc 0 _ rfl
  have f1 : v.cell? ⟨b, o + i * 2 + 1, none⟩ = some (.int .i64 (l[i].2 : Int)) := hc 1 _ rfl
  subst hA3
  have hmm := hid (show (r0, r1) ∈ l ↔ l[i] = (r0, r1) from (hm.out i true hA).trans ⟨fun ⟨_, _, h⟩ => h, fun h => ⟨rfl, hil, h⟩⟩)
  clear hc hM hm hle ht hA
  generalize l[i] = z at *
  obtain ⟨z0, z1⟩ := z
  dsimp only at f0 f1 hle0
  obtain rfl : z0 = r0 := by omega
  by_cases h1 : z1 = r1
  ·subst h1
   obtain rfl := hRt.out (hmm.out.2 rfl)
   clear hmm hRt hRf
   go_wp2_with fail
   go_quiet (fail)
   have hv : Below v.heap.size v (v.drewN nq) := below_drewN (Below.refl _ _) _
   generalize v.drewN nq = x at hv ⊢
   replace HB := bel_step HB hv
   go_wp2
   go_ret
   exact ⟨rfl, HB⟩
  ·obtain rfl := hRf.out (fun h => h1 (by have := hmm.out.1 h; injection this))
   have h1i : ((z1 : Int) == (r1 : Int)) = false := beq_eq_false_iff_ne.2 (by omega)
   clear hmm hRt hRf
   go_wp2_with fail
   go_quiet (fail)
   have hv : Below v.heap.size v (v.drewN nq) := below_drewN (Below.refl _ _) _
   generalize v.drewN nq = x at hv ⊢
   replace HB := bel_step HB hv
   go_wp2
   go_ret
   exact ⟨rfl, HB⟩
end Go.Proofs.Ytjfgklhifhaaoaa
