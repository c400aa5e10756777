/- Tables: whether all lines are valid, and a copy of a bitmap, of the reference. Conditions: a bitmap that is not empty. -/
import Derived.Test.YtjfgklhifhaaoaaGreatZTw7
import Derived.Test.YtjfgklhifhaaoaaGreatZTr5
set_option linter.unusedVariables false
set_option linter.unusedSimpArgs false
namespace Go.Proofs.YtjfgklhifhaaoaaGreat
open Go.RowKit
theorem all_not {l : List Ru} {i : Nat} (h : i < l.length) (hb : okR l[i] = false) : l.all okR = false := by
 rw [List.all_eq_false]
 exact ⟨_, List.getElem_mem h, by rw [hb]; simp⟩
theorem all_yes {l : List Ru} (h : ∀ i (hi : i < l.length), okR l[i] = true) : l.all okR = true := by
 rw [List.all_eq_true]
 intro x hx
 obtain ⟨i, hi, rfl⟩ := List.getElem_of_mem hx
 exact h i hi
set_option maxHeartbeats 4000000 in
theorem RVal_g (l : List Ru) (A : Option Addr) (c : Nat) {w : World} (hl : RuK.Rd w A c l) : Calls Tryz.prog 33 #[.slice A l.length c] w (RetB w (l.all okR)) := by
 obtain ⟨n, hn⟩ : ∃ n, l.length = n := ⟨_, rfl⟩
 have hM := hid fun (j : Nat) (hj : j < n) (W : World) (hb : Below w.heap.size w W) => (hl.below hb).at_ (j := j) (by omega)
 have cc := Nat.le_trans hl.cap hl.max
 have hB := hid fun (i : Nat) (h : i < l.length) hb => all_not (l := l) h hb
 have hE := hid fun h => all_yes (l := l) h
 rw [hn] at cc ⊢
 replace hn := hid hn
 generalize l.all okR = R at *
 clear hl
 have HB := Below.refl w.heap.size w
 go_enter Tryz.func33, Tryz.ntmps33
 go_wp2
 go_loopw [3] (fun s3 wr => ∃ i : Nat, s3 = .int .i64 i ∧ i ≤ n ∧ Hid (∀ j (hj : j < l.length), j < i → okR l[j] = true) ∧ Below w.heap.size w wr) (fun s3 _ => n - (intOf s3).toNat)
 case atStart => exact ⟨0, rfl, by omega, fun j _ h => by omega, HB⟩
 case round =>
  clear HB
  obtain ⟨i, rfl, hi, hA, HB⟩ := hrel
  by_cases hin : i < n
  ·have hii : (i : Int) < (n : Int) := by omega
   have hil : i < l.length := by have := hn.out; omega
   obtain ⟨b, o, hA3, hc⟩ := hM.out i hin wr HB
   have f0 : wr.cell? ⟨b, (o + i * 5), none⟩ = some (.bool l[i].v) := hc 0 _ rfl
   have f1 : wr.cell? ⟨b, (o + i * 5) + 1, none⟩ = some (.int .i64 l[i].a) := hc 1 _ rfl
   have f2 : wr.cell? ⟨b, (o + i * 5) + 2, none⟩ = some (.int .i64 l[i].t) := hc 2 _ rfl
   have f3 : wr.cell? ⟨b, (o + i * 5) + 3, none⟩ = some (.int .i64 l[i].f) := hc 3 _ rfl
   have f4 : wr.cell? ⟨b, (o + i * 5) + 4, none⟩ = some (.int .i64 l[i].o) := hc 4 _ rfl
   subst hA3
   have hb1 := hid fun (h : okR l[i] = false) => hB.out i hil h
   have hb2 := hid fun (h : okR l[i] = true) (j : Nat) (h1 : j < l.length) (hj : j < i + 1) => (show okR l[j] = true from by
    by_cases e : j = i
    ·subst e; exact h
    ·exact hA.out j h1 (by omega))
   clear hc
   generalize l[i] = q at *
   obtain ⟨qv, qa, qt, qf, qo⟩ := q
   dsimp only at f0 f1 f2 f3 f4
   have hok := okR_iff (r := ⟨qv, qa, qt, qf, qo⟩)
   dsimp only at hok
   have hbad := hid fun (h : ¬ (0 ≤ qa ∧ 0 ≤ qf ∧ 1 ≤ qt ∧ qf < qo ∧ qo ≤ 4096 ∧ qa ≤ 4096 ∧ qt ≤ 4096 - qa)) => hb1.out (Bool.eq_false_iff.2 fun e => h (hok.1 e))
   have hgood := hid fun (h : 0 ≤ qa ∧ 0 ≤ qf ∧ 1 ≤ qt ∧ qf < qo ∧ qo ≤ 4096 ∧ qa ≤ 4096 ∧ qt ≤ 4096 - qa) => hb2.out (hok.2 h)
   clear hb1 hb2 hok
   go_upto_region 5 with fail
   refine enterR (P := fun u => Code.wp _ _ _ _ u) (c := [.bool qv, .int .i64 qa, .int .i64 qt, .int .i64 qf, .int .i64 qo]) ?_
   intro x hbx s0 zx hsx
   clear hsx zx f0 f1 f2 f3 f4
   have f0 : (x).cell? ⟨wr.heap.size, 0, none⟩ = some (.bool qv) := s0 0 _ rfl
   have f1 : (x).cell? ⟨wr.heap.size, 1, none⟩ = some (.int .i64 qa) := s0 1 _ rfl
   have f2 : (x).cell? ⟨wr.heap.size, 2, none⟩ = some (.int .i64 qt) := s0 2 _ rfl
   have f3 : (x).cell? ⟨wr.heap.size, 3, none⟩ = some (.int .i64 qf) := s0 3 _ rfl
   have f4 : (x).cell? ⟨wr.heap.size, 4, none⟩ = some (.int .i64 qo) := s0 4 _ rfl
   clear s0
   replace HB := bel_step HB hbx
   clear hbx
   by_cases g1 : qa < 0
   ·skip
    obtain rfl := hbad.out (by omega)
    clear hbad hgood hM hA hE hB
    go_wp2
    go_ret
    exact ⟨rfl, HB⟩
   ·by_cases g2 : qf < 0
    ·skip
     obtain rfl := hbad.out (by omega)
     clear hbad hgood hM hA hE hB
     go_wp2
     go_ret
     exact ⟨rfl, HB⟩
    ·by_cases g3 : qt < 1
     ·skip
      obtain rfl := hbad.out (by omega)
      clear hbad hgood hM hA hE hB
      go_wp2
      go_ret
      exact ⟨rfl, HB⟩
     ·by_cases g4 : qo ≤ qf
      ·skip
       obtain rfl := hbad.out (by omega)
       clear hbad hgood hM hA hE hB
       go_wp2
       go_ret
       exact ⟨rfl, HB⟩
      ·by_cases g5 : 4096 < qo
       ·skip
        obtain rfl := hbad.out (by omega)
        clear hbad hgood hM hA hE hB
        go_wp2
        go_ret
        exact ⟨rfl, HB⟩
       ·by_cases g6 : 4096 < qt
        ·skip
         obtain rfl := hbad.out (by omega)
         clear hbad hgood hM hA hE hB
         go_wp2
         go_ret
         exact ⟨rfl, HB⟩
        ·have hws : IntKind.i64.wrap (4096 - qt) = 4096 - qt := by rw [IntKind.wrap_i64]; omega
         by_cases g7 : 4096 - qt < qa
         ·skip
          obtain rfl := hbad.out (by omega)
          clear hbad hgood hM hA hE hB
          go_wp2
          go_ret
          exact ⟨rfl, HB⟩
         ·have hA2 := hid (hgood.out (by omega))
          clear hbad hgood hM hA hE hB
          go_wp2
          go_roundw
          case rel => exact ⟨i + 1, by go_num, by omega, hA2, HB⟩
          case measure => simp [intOf]; omega
  ·obtain rfl : i = n := by omega
   have hii : ¬ (i : Int) < (i : Int) := by omega
   obtain rfl := hE.out fun j hj => hA.out j hj (by have := hn.out; omega)
   clear hM
   go_wp2
   go_ret
   exact ⟨rfl, HB⟩
/-! a copy -/
def RetCy (w : World) (m : Bm) (e : Ending) (w' : World) : Prop :=
 ∃ g q, e = .returned (.agg #[.int .i64 m.w, .int .i64 m.h, .slice (some ⟨g, 0, none⟩) m.d.length q]) ∧ PxA w' g m.d ∧ w.heap.size ≤ g ∧ (m.d.length ≤ q ∧ q ≤ 9223372036854775807) ∧ Below w.heap.size w w'
theorem Knd.Own.setOld {α : Type} {X : Knd α} {w : World} {base g i : Nat} {v u : Value} {l : List α} (h : X.Own w base v l) (hg : g < base) : X.Own (w.setCell ⟨g, i, none⟩ u) base v l :=
 h.kept fun k hk => Below.heap_setCell w ⟨g, i, none⟩ u k (by have := (h.lt hk).1; simp; omega)
set_option maxRecDepth 100000 in
set_option maxHeartbeats 4000000 in
theorem RCpy_g (m : Bm) (A : Option Addr) (c : Nat) {w : World} (hm : BoK.Rd w A c m.d) (h0 : 0 < m.d.length) (h4 : m.d.length ≤ 4194304) :
  Calls Tryz.prog 34 #[.agg #[.int .i64 m.w, .int .i64 m.h, .slice A m.d.length c]] w (RetCy w m) := by
 obtain ⟨W, H, d⟩ := m
 dsimp only at *
 have cc := Nat.le_trans hm.cap hm.max
 obtain ⟨n, hn⟩ : ∃ n, d.length = n := ⟨_, rfl⟩
 rw [hn] at cc ⊢
 have hpx := hid fun (W : World) (b : Nat) (v : Value) (h : BoK.Own W b v d) => (show ∃ g q, v = .slice (some ⟨g, 0, none⟩) n q ∧ b ≤ g ∧ PxA W g d ∧ n ≤ q ∧ q ≤ 9223372036854775807 from by rw [← hn]; exact own_px h h0)
 have hRt := hid fun (e : Ending) (w' : World) (g q : Nat) (h1 : e = .returned (.agg #[.int .i64 W, .int .i64 H, .slice (some ⟨g, 0, none⟩) n q])) h2 h3 h4 h5 => (show RetCy w ⟨W, H, d⟩ e w' from ⟨g, q, by dsimp only; rw [hn]; exact h1, h2, h3, by dsimp only; rw [hn]; exact h4, h5⟩)
 have hn1 := hid hn
 clear hn
 go_enter Tryz.func34, Tryz.ntmps34
 go_upto_region 1 with fail
 refine enterR2 (P := fun u => Code.wp _ _ _ _ u) (c0 := [.int .i64 W, .int .i64 H, .slice A n c]) (c1 := [.int .i64 0, .int .i64 0, .slice none 0 0]) ?_
 intro u HB r0 r1 zn0 zn1 hsz
 have c0 : u.cell? ⟨w.heap.size, 0, none⟩ = some (.int .i64 W) := r0 0 _ rfl
 have c1 : u.cell? ⟨w.heap.size, 1, none⟩ = some (.int .i64 H) := r0 1 _ rfl
 have c2 : u.cell? ⟨w.heap.size, 2, none⟩ = some (.slice A n c) := r0 2 _ rfl
 have hrd := hm.below HB
 have hlt1 := zn1.lt
 have hws := HB.size
 clear r0 zn0 hsz
 go_upto_region 3 with (at_builtin; go_loud (refine Knd.appr BoKo rfl (.tmp 4) (.tmp 6) rfl u.heap.size (.slice none 0 0) A n c [] d rfl (Knd.Own.nil _ _) rfl hn1.out hrd (by simp) (by have := hn1.out; omega) (Nat.le_refl _) ?_); intro v7 w7 hO7 hg7 hat7)
 rw [List.nil_append] at hO7
 have hbw : Below u.heap.size u w7 := Below.grown (Below.refl _ _) hg7 (Nat.le_refl _) (fun k e => by cases e)
 replace c0 := keep_cell hbw c0
 replace c1 := keep_cell hbw c1
 replace c2 := keep_cell hbw c2
 replace r1 := rng_below r1 hbw
 replace zn1 := zn1.below hbw
 replace HB := bel_step HB hbw
 have k0 : w7.cell? ⟨w.heap.size + 1, 0, none⟩ = some (.int .i64 0) := r1 0 _ rfl
 have k1 : w7.cell? ⟨w.heap.size + 1, 1, none⟩ = some (.int .i64 0) := r1 1 _ rfl
 have k2 : w7.cell? ⟨w.heap.size + 1, 2, none⟩ = some (.slice none 0 0) := r1 2 _ rfl
 have fk := zn1.fr
 have hO8 := ((hO7.setOld (i := 0) (u := .int .i64 W) hlt1).setOld (i := 1) (u := .int .i64 H) hlt1)
 obtain ⟨g, q, rfl, hgb, -, hq1, hq2⟩ := hpx.out _ _ _ hO7
 have hO9 := hO8.setOld (i := 2) (u := .slice (some ⟨g, 0, none⟩) n q) hlt1
 obtain ⟨g', q', e9, -, hP9, -, -⟩ := hpx.out _ _ _ hO9
 injection e9 with e9 _ e10
 injection e9 with e9
 injection e9 with e9 _ _
 subst e9 e10
 have hHf := hid (below_set (below_set (below_set HB (show w.heap.size ≤ w.heap.size + 1 by omega) 0 (.int .i64 W)) (show w.heap.size ≤ w.heap.size + 1 by omega) 1 (.int .i64 H)) (show w.heap.size ≤ w.heap.size + 1 by omega) 2 (.slice (some ⟨g, 0, none⟩) n q))
 replace hP9 := hid hP9
 have hgg := hid (show w.heap.size ≤ g from by omega)
 clear hO7 hO8 hO9 hg7 hat7 hbw HB r1 zn1 hrd hpx hm
 go_wp2
 refine bodyPost_ret (v := .agg #[.int .i64 W, .int .i64 H, .slice (some ⟨g, 0, none⟩) n q]) ?_ rfl ?_
 ·simp [results, Tryz.results34, go_sem, k0, k1, k2]
 ·exact hRt.out _ _ g q rfl hP9.out hgg.out ⟨hq1, hq2⟩ hHf.out
end Go.Proofs.YtjfgklhifhaaoaaGreat
