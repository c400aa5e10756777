/- Reading order: above and insert of the reference. Conditions: at most 4096 boxes. -/
import Derived.Test.YtjdgjhaggpahkaaZRw9
import Derived.Deep.AppendSrc
import Derived.Deep.Upon
set_option linter.unusedVariables false
set_option linter.unusedSimpArgs false
namespace Go.Proofs.Ytjdgjhaggpahkaa
open Go.RowKit Go.Deep
set_option maxHeartbeats 4000000 in
theorem Rabv_g (l : List Bx) (A : Option Addr) (c : Nat) (i k : Nat) {w : World} (hl : Qb w A c l) (hi : i < l.length) (hk : k < l.length) :
  Calls Try.prog 45 #[.slice A l.length c, .int .i64 (i : Int), .int .i64 (k : Int)] w (RetB w (abvB l i k)) := by
 obtain ⟨R, hR⟩ : ∃ R, abvB l i k = R := ⟨_, rfl⟩
 obtain ⟨n, hn⟩ : ∃ n, l.length = n := ⟨_, rfl⟩
 have cc := Nat.le_trans hl.cap hl.max
 obtain ⟨b, o, hA, _⟩ := hl.at_ hi
 subst hA
 rw [hn] at cc hi hk ⊢
 have qi := hl.xy hn hi
 have qk := hl.xy hn hk
 rw [hR]
 have HB := Below.refl w.heap.size w
 have hT := hid fun (h : (l.getD i default).y < (l.getD k default).y ∨ ((l.getD i default).y = (l.getD k default).y ∧ ((l.getD i default).x < (l.getD k default).x ∨ ((l.getD i default).x = (l.getD k default).x ∧ i < k)))) => (show R = true from by rw [← hR]; unfold abvB; exact decide_eq_true h)
 have hF := hid fun (h : ¬ ((l.getD i default).y < (l.getD k default).y ∨ ((l.getD i default).y = (l.getD k default).y ∧ ((l.getD i default).x < (l.getD k default).x ∨ ((l.getD i default).x = (l.getD k default).x ∧ i < k))))) => (show R = false from by rw [← hR]; unfold abvB; exact decide_eq_false h)
 clear hl hn hR
 generalize l.getD i default = p at *
 generalize l.getD k default = q at *
 obtain ⟨x, y, bw, bh⟩ := p
 obtain ⟨x2, y2, bw2, bh2⟩ := q
 obtain ⟨e0, e1, e2, e3⟩ := qi
 obtain ⟨f0, f1, f2, f3⟩ := qk
 dsimp only at e0 e1 e2 e3 f0 f1 f2 f3 hT hF
 have hii : (i : Int) < (n : Int) := by omega
 have hkk : (k : Int) < (n : Int) := by omega
 go_enter Try.func45, Try.ntmps45
 go_upto_region 2 with fail
 have hb1 := HB.alloc (Nat.le_refl _) (.cells #[.int .i64 x, .int .i64 y, .int .i64 bw, .int .i64 bh] 31)
 have r0 := rng_alloc (w := w) (cs := [.int .i64 x, .int .i64 y, .int .i64 bw, .int .i64 bh]) (t := 31)
 have f0 := keep_alloc (b := (.cells #[.int .i64 x, .int .i64 y, .int .i64 bw, .int .i64 bh] 31)) f0
 have f1 := keep_alloc (b := (.cells #[.int .i64 x, .int .i64 y, .int .i64 bw, .int .i64 bh] 31)) f1
 have f2 := keep_alloc (b := (.cells #[.int .i64 x, .int .i64 y, .int .i64 bw, .int .i64 bh] 31)) f2
 have f3 := keep_alloc (b := (.cells #[.int .i64 x, .int .i64 y, .int .i64 bw, .int .i64 bh] 31)) f3
 generalize hg1 : w.heap.size = g1 at *
 generalize w.alloc (.cells #[.int .i64 x, .int .i64 y, .int .i64 bw, .int .i64 bh] 31) = v at *
 have c0 : v.cell? ⟨g1, 0, none⟩ = some (.int .i64 x) := r0 0 _ rfl
 have c1 : v.cell? ⟨g1, 1, none⟩ = some (.int .i64 y) := r0 1 _ rfl
 clear r0 e0 e1 e2 e3 HB
 go_upto_region 3 with fail
 have hb2 := hb1.alloc (hg1 ▸ hb1.size) (.cells #[.int .i64 x2, .int .i64 y2, .int .i64 bw2, .int .i64 bh2] 31)
 have r0 := rng_alloc (w := v) (cs := [.int .i64 x2, .int .i64 y2, .int .i64 bw2, .int .i64 bh2]) (t := 31)
 have c0 := keep_alloc (b := (.cells #[.int .i64 x2, .int .i64 y2, .int .i64 bw2, .int .i64 bh2] 31)) c0
 have c1 := keep_alloc (b := (.cells #[.int .i64 x2, .int .i64 y2, .int .i64 bw2, .int .i64 bh2] 31)) c1
 generalize hg2 : v.heap.size = g2 at *
 generalize v.alloc (.cells #[.int .i64 x2, .int .i64 y2, .int .i64 bw2, .int .i64 bh2] 31) = u at *
 have d0 : u.cell? ⟨g2, 0, none⟩ = some (.int .i64 x2) := r0 0 _ rfl
 have d1 : u.cell? ⟨g2, 1, none⟩ = some (.int .i64 y2) := r0 1 _ rfl
 subst hg1
 clear r0 f0 f1 f2 f3 hb1
 by_cases hy : y = y2
 ·subst hy
  by_cases hx : x = x2
  ·subst hx
   by_cases hik : i < k
   ·obtain rfl := hT.out (by omega)
    have hikz : (i : Int) < (k : Int) := by omega
    clear hT hF
    go_wp2
    go_ret
    exact ⟨rfl, hb2⟩
   ·obtain rfl := hF.out (by omega)
    have hikz : ¬ (i : Int) < (k : Int) := by omega
    clear hT hF
    go_wp2
    go_ret
    exact ⟨rfl, hb2⟩
  ·have hne : (x == x2) = false := beq_eq_false_iff_ne.2 hx
   by_cases hlt : x < x2
   ·obtain rfl := hT.out (by omega)
    clear hT hF
    go_wp2
    go_ret
    exact ⟨rfl, hb2⟩
   ·obtain rfl := hF.out (by omega)
    clear hT hF
    go_wp2
    go_ret
    exact ⟨rfl, hb2⟩
 ·have hne : (y == y2) = false := beq_eq_false_iff_ne.2 hy
  by_cases hlt : y < y2
  ·obtain rfl := hT.out (by omega)
   clear hT hF
   go_wp2
   go_ret
   exact ⟨rfl, hb2⟩
  ·obtain rfl := hF.out (by omega)
   clear hT hF
   go_wp2
   go_ret
   exact ⟨rfl, hb2⟩
/-- one index more in a list from top to bottom -/
def insB (l : List Bx) (s : List Nat) (i : Nat) : List Nat := (s.takeWhile fun a => abvB l a i) ++ i :: (s.dropWhile fun a => abvB l a i)
def RetZ (w : World) (q : List Nat) (e : Ending) (w' : World) : Prop := ∃ v, e = .returned v ∧ OwnZ w' w.heap.size v q ∧ Below w.heap.size w w'
theorem tw_at {p : Nat → Bool} : ∀ (s : List Nat) (k : Nat) (hk : k < s.length), (∀ j (h : j < s.length), j < k → p s[j] = true) → p s[k] = false → s.takeWhile p = s.take k ∧ s.dropWhile p = s.drop k
 | a :: s, 0, _, _, h => by
  have h : p a = false := h
  rw [List.takeWhile_cons, List.dropWhile_cons, h]
  exact ⟨rfl, rfl⟩
 | a :: s, k + 1, hk, ha, h => by
  have h0 : p a = true := ha 0 (by simp) (by omega)
  obtain ⟨e1, e2⟩ := tw_at s k (by simpa using hk) (fun j hj h' => ha (j + 1) (by simpa using hj) (by omega)) (by simpa using h)
  rw [List.takeWhile_cons, List.dropWhile_cons, h0, if_pos rfl, if_pos rfl, e1, e2]
  exact ⟨rfl, rfl⟩
theorem tw_all {p : Nat → Bool} : ∀ (s : List Nat), (∀ j (h : j < s.length), p s[j] = true) → s.takeWhile p = s ∧ s.dropWhile p = []
 | [], _ => ⟨rfl, rfl⟩
 | a :: s, h => by
  have h0 : p a = true := h 0 (by simp)
  obtain ⟨e1, e2⟩ := tw_all s (fun j hj => h (j + 1) (by simpa using hj))
  rw [List.takeWhile_cons, List.dropWhile_cons, h0, if_pos rfl, if_pos rfl, e1, e2]
  exact ⟨rfl, rfl⟩
/-- nothing is appended -/
theorem wpList_appN {w : World} {ops : Array Oper} {rest : List Oper} {o : Oper} {a : Act} {Q : Exit → Act → World → Prop} (hgd : o.guard = none) (s x : Operand)
  (ho : o.op = .call { callee := .builtin .append, args := #[s, x], argTypes := #[25, 25] })
  (A : Option Addr) (n c : Nat) (B : Option Addr) (d : Nat) (hs : a.eval s = .slice A n c) (hx : a.eval x = .slice B 0 d) (hnc : n ≤ c)
  (h : wpList Try.prog ops Q rest (a.put o.dst (.slice A n c)) w) : wpList Try.prog ops Q (o :: rest) a w := by
 refine wpList_plain hgd fun _ hK => ?_
 obtain ⟨i, hi, hzz⟩ := Option.map_eq_some_iff.1 infoZ
 have hS : Src Try.prog i.size 25 (.slice B 0 d) 0 [] w := by
  cases B with
  | none => exact Src.ofNil w Try.underlying25 d
  | some ad => exact Src.ofSlice w Try.underlying25 ad 0 d [] (by simp) (fun j u hu => by simp at hu) (fun u hu => by simp at hu)
 have hrun := run_append_nothing w 25 25 o.type 3 i Try.underlying25 hi A n c hnc (.slice B 0 d) hS
 unfold Oper.wp execOp
 simp only [ho, resolve, invoke, builtin, Sem.run_bind, Sem.run_pure, Result.andThen_ok, List.map_toArray, List.map_cons, List.map_nil, hs, hx, hrun]
 exact hK _ _ h
theorem own_empty (w : World) {B : Nat} (hB : B ≤ w.heap.size) : OwnZ (w.alloc (.cells #[] 3)) B (.slice (some ⟨w.heap.size, 0, none⟩) 0 0) [] := by
 have h := World.ownsRow_lit (e := 3) (size := 1) w #[] 0 hB (by unfold maxLen; omega) (by simp)
 exact h
theorem CelZ.take {w : World} {g o : Nat} {s : List Nat} (h : CelZ w g o s) (k : Nat) : CelZ w g o (s.take k) := fun j hj => by
 have hj2 : j < s.length := by simp at hj; omega
 rw [h j hj2, List.getElem_take]
theorem CelZ.drop {w : World} {g o : Nat} {s : List Nat} (h : CelZ w g o s) (k : Nat) : CelZ w g (o + k) (s.drop k) := fun j hj => by
 have hj2 : k + j < s.length := by simp at hj; omega
 rw [show o + k + j = o + (k + j) by omega, h (k + j) hj2, List.getElem_drop]
set_option maxRecDepth 100000 in
set_option maxHeartbeats 8000000 in
theorem Rins_g (l : List Bx) (A : Option Addr) (c : Nat) (s : List Nat) (v : Value) (i : Nat) {w : World} (hl : Qb w A c l) (h4 : l.length ≤ 4096) (hs : Zs w v s) (hsl : s.length ≤ 4096) (hsn : ∀ a ∈ s, a < l.length) (hi : i < l.length) :
  Calls Try.prog 35 #[.slice A l.length c, v, .int .i64 (i : Int)] w (RetZ w (insB l s i)) := by
 obtain ⟨n, hn⟩ : ∃ n, l.length = n := ⟨_, rfl⟩
 obtain ⟨R, hR⟩ : ∃ R, insB l s i = R := ⟨_, rfl⟩
 obtain ⟨m, hm⟩ : ∃ m, s.length = m := ⟨_, rfl⟩
 have HA := hid fun (W : World) (hb : Below w.heap.size w W) (a : Nat) (ha : a < n) => (show Calls Try.prog 45 #[.slice A n c, .int .i64 (a : Int), .int .i64 (i : Int)] W (RetB W (abvB l a i)) from by
  rw [← hn]; exact Rabv_g l A c a i (hl.below hb) (by omega) hi)
 have hsn2 := hid fun (j : Nat) (h : j < s.length) => (show s[j] < n from hn ▸ hsn _ (List.getElem_mem h))
 have hst := hid fun (k : Nat) (hk : k < s.length) (ha : ∀ j (h : j < s.length), j < k → abvB l s[j] i = true) (hf : abvB l s[k] i = false) => (show s.take k ++ i :: s.drop k = R from by
  rw [← hR]; unfold insB
  obtain ⟨e1, e2⟩ := tw_at (p := fun a => abvB l a i) s k hk ha hf
  rw [e1, e2])
 have hsa := hid fun (ha : ∀ j (h : j < s.length), abvB l s[j] i = true) => (show s.take s.length ++ i :: s.drop s.length = R from by
  rw [← hR]; unfold insB
  obtain ⟨e1, e2⟩ := tw_all (p := fun a => abvB l a i) s ha
  rw [e1, e2]; simp)
 obtain ⟨As, cs, rfl, hc1, hc2⟩ := hs.form
 rw [hR]
 rw [hn] at h4 hi ⊢
 rw [hm] at hsl hc1 ⊢
 have hs0 := hid hs
 have HB := Below.refl w.heap.size w
 replace hm := hid hm
 replace hn := hid hn
 have hii : (i : Int) < (n : Int) := by omega
 clear hs hl hR
 go_enter Try.func35, Try.ntmps35
 go_wp2
 go_loopw [7] (fun s7 wr => ∃ k : Nat, s7 = .int .i64 (k : Int) ∧ k ≤ m ∧ Hid (∀ j (h : j < s.length), j < k → abvB l s[j] i = true) ∧ Below w.heap.size w wr) (fun s7 _ => m - (intOf s7).toNat)
 case atStart => exact ⟨0, rfl, by omega, fun j _ h => by omega, HB⟩
 case round =>
  clear HB
  obtain ⟨k, rfl, hk, hA, HB⟩ := hrel
  by_cases hkm : k < m
  ·have hkk : (k : Int) < (m : Int) := by omega
   have hks : k < s.length := by have := hm.out; omega
   obtain ⟨g, o, hA2, co⟩ := (hs0.out.below HB).at_ hks
   subst hA2
   unfold intV at co
   have hC := HA.out wr HB s[k] (hsn2.out k hks)
   obtain ⟨t, ht⟩ : ∃ t, abvB l s[k] i = t := ⟨_, rfl⟩
   rw [ht] at hC
   have hst2 := hid fun (h : t = false) => hst.out k hks hA.out (ht.trans h)
   have hA2 := hid fun (h : t = true) (j : Nat) (hj : j < s.length) (hjk : j < k + 1) => (show abvB l s[j] i = true from by
    by_cases e : j = k
    ·subst e; exact ht.trans h
    ·exact hA.out j hj (by omega))
   generalize hsk : s[k] = a at *
   replace hC := hid hC
   clear ht hsk
   cases t
   ·replace hst2 := hid (hst2.out (by first | rfl | trivial))
    clear hA2 hst hsa
    go_wp2_with fail
    refine hC.out.mono ?_
    rintro e w1 ⟨rfl, hb1⟩
    replace HB := bel_step HB hb1
    clear hC hb1 co HA
    have hlow : ¬ cs = k := by omega
    have hdp := hid fun (W : World) (hb : Below w.heap.size w W) => (show CelZ W g (o + k) (s.drop k) from by
     obtain ⟨A', c', e, _, _, h3⟩ := (hs0.out.below hb).ex
     injection e with e1 e2 e3
     obtain ⟨g', o', e4, _, h5⟩ := h3 (by omega)
     rw [e4] at e1
     cases e1
     exact h5.drop k)
    have hcW : CelZ w1 g o s := by
     obtain ⟨A', c', e, _, _, h3⟩ := (hs0.out.below HB).ex
     injection e with e1 e2 e3
     obtain ⟨g', o', e4, _, h5⟩ := h3 (by have := hm.out; omega)
     rw [e4] at e1
     cases e1
     exact h5
    have hO0 := own_empty w1 HB.size
    have hB0 := HB.alloc HB.size (.cells #[] 3)
    have hc1' := (hcW.take k).below ((Below.refl _ _).alloc (Nat.le_refl _) (.cells #[] 3))
    have hl1 := hid (show (s.take k).length = k from by have := hm.out; simp; omega)
    have hl2 := hid (show (s.drop k).length = m - k from by rw [List.length_drop, hm.out])
    have hlm : (s.take k).length ≤ 1000000 := by rw [hl1.out]; omega
    have hmk : IntKind.i64.wrap ((m : Int) - (k : Int)) = ((m - k : Nat) : Int) := by rw [IntKind.wrap_i64]; omega
    go_upto_region 5 with (at_builtin; go_loud (refine wpList_appZ rfl (.tmp 24) (.tmp 27) rfl w.heap.size _ [] (s.take k) g o cs rfl hO0 (by rw [hl1.out]; rfl) hc1' (by simp) hlm (by simp; have := HB.size; omega) ?_); intro v5 w5 hO5 hg5 hat5)
    have hb5 := Below.grownZ hB0 hO0 hg5 (by simp; have := HB.size; omega) (Nat.le_refl _)
    rw [List.nil_append] at hO5
    have hl5 := hid hl1.out
    have hO5x := hO5.below ((Below.refl _ _).alloc (Nat.le_refl _) (.cells #[.int .i64 (i : Int)] 3))
    have hb5x := hb5.alloc hb5.size (.cells #[.int .i64 (i : Int)] 3)
    have hs5 := hb5.size
    clear hO0 hB0 hc1' hg5 hat5 hO5 hb5
    go_upto_region 6 with (at_builtin; go_loud (refine wpList_app1 rfl (.tmp 29) (.tmp 31) rfl w.heap.size v5 (s.take k) i w5.heap.size rfl hO5x rfl (at_one rfl) hlm (by simp; omega) ?_); intro v6 w6 hO6 hg6 hat6)
    have hb6 := Below.grownZ hb5x hO5x hg6 (by simp; omega) (Nat.le_refl _)
    have hs6 := hb6.size
    have hlm6 : (s.take k ++ [i]).length ≤ 1000000 := by rw [List.length_append, hl1.out]; simp; omega
    have hc6 := (hs0.out.below hb6)
    have hlm7 : (s.drop k).length ≤ 1000000 := by rw [hl2.out]; omega
    clear hO5x hb5x hg6 hat6
    have hcd := hdp.out w6 hb6
    go_wp2_with (at_builtin; go_loud (refine wpList_appZ rfl (.tmp 33) (.tmp 36) rfl w.heap.size v6 (s.take k ++ [i]) (s.drop k) g (o + k) (cs - k) rfl hO6 (by rw [hl2.out]; rfl) hcd hlm6 hlm7 hs6 ?_); intro v7 w7 hO7 hg7 hat7)
    have hb7 := Below.grownZ hb6 hO6 hg7 hs6 (Nat.le_refl _)
    clear hg7 hat7 hO6 hb6 hcd hdp
    have hfin := hid (show OwnZ w7 w.heap.size v7 R from by rw [← hst2.out]; have h := hO7; simpa using h)
    have hb7h := hid hb7
    clear hO7 hb7
    go_wp2
    go_ret
    exact ⟨_, rfl, hfin.out, hb7h.out⟩
   ·have hA3 := hid (hA2.out (by first | rfl | trivial))
    clear hA2 hst2 hst hsa
    go_wp2_with fail
    refine hC.out.mono ?_
    rintro e w1 ⟨rfl, hb1⟩
    replace HB := bel_step HB hb1
    clear hC hb1 co
    go_wp2
    go_roundw
    case rel => exact ⟨k + 1, by go_num, by omega, hA3, HB⟩
    case measure => simp [intOf]; omega
  ·obtain rfl : m = k := by omega
   have hkk : ¬ (m : Int) < (m : Int) := by omega
   have hst2 := hid (show s.take m ++ i :: s.drop m = R from by have := hsa.out (fun j h => hA.out j h (by have := hm.out; omega)); rw [hm.out] at this; exact this)
   obtain ⟨wz, hwz⟩ : ∃ wz, wz = wr := ⟨_, rfl⟩
   subst hwz
   clear HA hsa hst hA
   rcases Nat.eq_zero_or_pos m with hz | hz
   ·subst hz
    have hO0 := own_empty wz HB.size
    have hB0 := HB.alloc HB.size (.cells #[] 3)
    have hRe := hid (show [i] = R from by rw [← hst2.out, List.eq_nil_of_length_eq_zero hm.out]; rfl)
    have hOx := hO0.below ((Below.refl _ _).alloc (Nat.le_refl _) (.cells #[.int .i64 (i : Int)] 3))
    have hBx := hB0.alloc hB0.size (.cells #[.int .i64 (i : Int)] 3)
    have hszx := HB.size
    clear hO0 hB0
    go_wp2_with (first | (at_builtin; refine wpList_appN rfl (.tmp 24) (.tmp 27) rfl _ 0 0 As cs rfl rfl (Nat.le_refl _) ?_) | (at_builtin; (refine wpList_app1 rfl (.tmp 29) (.tmp 31) rfl w.heap.size _ [] i _ rfl hOx rfl (at_one (by simp)) (by simp) (by simp; omega) ?_); intro v6 w6 hO6 hg6 hat6) | (at_builtin; obtain ⟨A6, c6, hv6, hc6a, hc6b⟩ := hO6.zs.form; rw [hv6]; refine wpList_appN rfl (.tmp 33) (.tmp 36) rfl A6 1 c6 _ _ (by first | rfl | exact hv6) rfl hc6a ?_))
    have hb6 := hid (Below.grownZ hBx hOx hg6 (by simp; omega) (Nat.le_refl _))
    have hfin := hid (show OwnZ w6 w.heap.size (.slice A6 1 c6) R from by
     have h := hO6
     rw [hv6] at h
     rw [← hRe.out]
     simpa using h)
    clear hO6 hg6 hat6 hOx hBx
    go_ret
    exact ⟨_, rfl, hfin.out, hb6.out⟩
   ·have hlow : cs = m ∨ ¬ cs = m := by omega
    obtain ⟨g, o, hA2, _⟩ := (hs0.out.below HB).at_ (j := 0) (by have := hm.out; omega)
    subst hA2
    have hcW : CelZ wz g o s := by
     obtain ⟨A', c', e, _, _, h3⟩ := (hs0.out.below HB).ex
     injection e with e1 e2 e3
     obtain ⟨g', o', e4, _, h5⟩ := h3 (by have := hm.out; omega)
     rw [e4] at e1
     cases e1
     exact h5
    have hO0 := own_empty wz HB.size
    have hB0 := HB.alloc HB.size (.cells #[] 3)
    have hc1' := (hcW.take m).below ((Below.refl _ _).alloc (Nat.le_refl _) (.cells #[] 3))
    have hl1 := hid (show (s.take m).length = m from by have := hm.out; simp; omega)
    have hl2 := hid (show (s.drop m).length = m - m from by rw [List.length_drop, hm.out])
    have hlm : (s.take m).length ≤ 1000000 := by rw [hl1.out]; omega
    have hmk : IntKind.i64.wrap ((m : Int) - (m : Int)) = ((m - m : Nat) : Int) := by rw [IntKind.wrap_i64]; omega
    go_upto_region 5 with (at_builtin; go_loud (refine wpList_appZ rfl (.tmp 24) (.tmp 27) rfl w.heap.size _ [] (s.take m) g o cs rfl hO0 (by rw [hl1.out]; rfl) hc1' (by simp) hlm (by simp; have := HB.size; omega) ?_); intro v5 w5 hO5 hg5 hat5)
    have hb5 := Below.grownZ hB0 hO0 hg5 (by simp; have := HB.size; omega) (Nat.le_refl _)
    rw [List.nil_append] at hO5
    have hl5 := hid hl1.out
    have hO5x := hO5.below ((Below.refl _ _).alloc (Nat.le_refl _) (.cells #[.int .i64 (i : Int)] 3))
    have hb5x := hb5.alloc hb5.size (.cells #[.int .i64 (i : Int)] 3)
    have hs5 := hb5.size
    clear hO0 hB0 hc1' hg5 hat5 hO5 hb5
    go_upto_region 6 with (at_builtin; go_loud (refine wpList_app1 rfl (.tmp 29) (.tmp 31) rfl w.heap.size v5 (s.take m) i w5.heap.size rfl hO5x rfl (at_one rfl) hlm (by simp; omega) ?_); intro v6 w6 hO6 hg6 hat6)
    have hb6 := Below.grownZ hb5x hO5x hg6 (by simp; omega) (Nat.le_refl _)
    have hs6 := hb6.size
    have hlm6 : (s.take m ++ [i]).length ≤ 1000000 := by rw [List.length_append, hl1.out]; simp; omega
    have hc6 := (hs0.out.below hb6)
    have hlm7 : (s.drop m).length ≤ 1000000 := by rw [hl2.out]; omega
    clear hO5x hb5x hg6 hat6
    obtain ⟨A6, c6, hv6, hc6a, _⟩ := hO6.zs.form
    rw [List.length_append, hl1.out] at hv6 hc6a
    subst hv6
    have h00 : m - m = 0 := by omega
    have hb6h := hid hb6
    have hfin := hid (show OwnZ w6 w.heap.size (.slice A6 (m + 1) c6) R from by
     have h := hO6
     rw [← hst2.out, List.drop_of_length_le (by rw [hm.out]; exact Nat.le_refl _)]
     exact h)
    clear hO6 hb6
    rcases hlow with hlow | hlow
    ·go_wp2_with (at_builtin; (refine wpList_appN rfl (.tmp 33) (.tmp 36) rfl A6 _ c6 _ _ rfl (by simp; rfl) hc6a ?_))
     go_ret
     exact ⟨_, rfl, hfin.out, hb6h.out⟩
    ·go_wp2_with (at_builtin; (refine wpList_appN rfl (.tmp 33) (.tmp 36) rfl A6 _ c6 _ _ rfl (by simp; rfl) hc6a ?_))
     go_ret
     exact ⟨_, rfl, hfin.out, hb6h.out⟩
end Go.Proofs.Ytjdgjhaggpahkaa
