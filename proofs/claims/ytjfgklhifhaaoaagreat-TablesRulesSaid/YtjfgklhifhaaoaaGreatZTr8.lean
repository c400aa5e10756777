/- Tables: the reference's Sound and Rules. Conditions: none. -/
import Derived.Test.YtjfgklhifhaaoaaGreatZTr7
import Derived.Test.YtjfgklhifhaaoaaGreatZTw12
set_option linter.unusedVariables false
set_option linter.unusedSimpArgs false
namespace Go.Proofs.YtjfgklhifhaaoaaGreat
open Go.RowKit
set_option maxHeartbeats 4000000 in
theorem RSnd_g (m : Bm) (A : Option Addr) (c : Nat) (w : World) : Calls Tryz.prog 29 #[.agg #[.int .i64 m.w, .int .i64 m.h, .slice A m.d.length c]] w (RetB w (bmB m)) := by
 have hs := hid (bmB_iff (m := m))
 generalize bmB m = t at *
 obtain ⟨W, H, d⟩ := m
 dsimp only at hs ⊢
 generalize d.length = n at *
 have hn : Hid (¬ ((1 ≤ W ∧ W ≤ 4096 ∧ 1 ≤ H ∧ H ≤ 4096 ∧ W * H ≤ 4194304) ∧ (n : Int) = W * H) → t = false) := fun h => Bool.eq_false_iff.2 fun e => h (hs.out.1 e)
 go_enter Tryz.func29, Tryz.ntmps29
 go_upto_region 1 with fail
 refine enterR (P := fun u => Code.wp _ _ _ _ u) (c := [.int .i64 W, .int .i64 H, .slice A n c]) ?_
 intro u HB r0 zn0 hsz
 have c0 : u.cell? ⟨w.heap.size, 0, none⟩ = some (.int .i64 W) := r0 0 _ rfl
 have c1 : u.cell? ⟨w.heap.size, 1, none⟩ = some (.int .i64 H) := r0 1 _ rfl
 have c2 : u.cell? ⟨w.heap.size, 2, none⟩ = some (.slice A n c) := r0 2 _ rfl
 clear r0 zn0 hsz
 by_cases h1 : 1 ≤ W
 ·by_cases h2 : W ≤ 4096
  ·by_cases h3 : 1 ≤ H
   ·by_cases h4 : H ≤ 4096
    ·have hp : 0 ≤ W * H ∧ W * H ≤ 4096 * 4096 := ⟨Int.mul_nonneg (by omega) (by omega), Int.mul_le_mul (by omega) (by omega) (by omega) (by omega)⟩
     obtain ⟨q, hq⟩ : ∃ q, W * H = q := ⟨_, rfl⟩
     rw [hq] at hp hs hn
     have hwp : IntKind.i64.wrap (W * H) = q := by rw [IntKind.wrap_i64]; omega
     have h1' : 1 ≤ W := h1
     by_cases h5 : q ≤ 4194304
     ·by_cases h6 : (n : Int) = q
      ·obtain rfl := hs.out.2 ⟨⟨h1, h2, h3, h4, h5⟩, h6⟩
       have h6i : ((n : Int) == q) = true := beq_iff_eq.2 h6
       clear hp hq h6 h1'
       clear hs hn
       go_wp2
       go_ret
       exact ⟨rfl, HB⟩
      ·obtain rfl := hn.out fun h => h6 h.2
       have h6i : ((n : Int) == q) = false := beq_eq_false_iff_ne.2 h6
       clear hp hq h6 h1'
       clear hs hn
       go_wp2
       go_ret
       exact ⟨rfl, HB⟩
     ·obtain rfl := hn.out fun h => h5 h.1.2.2.2.2
      clear hp hq h1'
      clear hs hn
      go_wp2
      go_ret
      exact ⟨rfl, HB⟩
    ·obtain rfl := hn.out fun h => h4 h.1.2.2.2.1
     clear hs hn
     go_wp2
     go_ret
     exact ⟨rfl, HB⟩
   ·obtain rfl := hn.out fun h => h3 h.1.2.2.1
    clear hs hn
    go_wp2
    go_ret
    exact ⟨rfl, HB⟩
  ·obtain rfl := hn.out fun h => h2 h.1.2.1
   clear hs hn
   go_wp2
   go_ret
   exact ⟨rfl, HB⟩
 ·obtain rfl := hn.out fun h => h1 h.1.1
  clear hs hn
  go_wp2
  go_ret
  exact ⟨rfl, HB⟩
theorem Knd.step_appv {α : Type} {X : Knd α} (ok : X.Ok) {w : World} {ops : Array Oper} {o : Oper} {a : Act} {K : Act → World → Prop} {Q : Exit → Act → World → Prop} {E : Prop} (hgd : o.guard = none) (s x : Operand)
  (ho : o.op = .call { callee := .builtin .append, args := #[s, x], argTypes := #[X.T, X.T] })
  (base b2 : Nat) (v u : Value) (l m : List α) (hs : a.eval s = v) (hown : X.Own w base v l) (hx : a.eval x = u) (hu : X.Own w b2 u m) (hl : l.length ≤ 100000000) (hm : m.length ≤ 100000000) (hbase : base ≤ w.heap.size)
  (h : ∀ v' w', X.Own w' base v' (l ++ m) → w.grownBy w' v.ownBlock → (v'.ownBlock = v.ownBlock ∨ v'.ownBlock = some w.heap.size) → K (a.put o.dst v') w') :
  if Region.wanted o (yielded ops a.tmps) = true then Oper.wp Tryz.prog o a w K Q else E := by
 have hw : Region.wanted o (yielded ops a.tmps) = true := by simp [Region.wanted, hgd]
 rw [if_pos hw]
 obtain ⟨v', w', hrun, h2, h3, h4⟩ := Knd.run_appv ok o.type base b2 v u l m hown hu hl hm hbase
 unfold Oper.wp execOp
 simp only [ho, resolve, invoke, builtin, Sem.run_bind, Sem.run_pure, Result.andThen_ok, List.map_toArray, List.map_cons, List.map_nil, hs, hx, hrun]
 exact h v' w' h2 h3 h4
/-- the lines of a direction, in the words of the bitmap -/
theorem RLines_m (m : Bm) (A : Option Addr) (c : Nat) (v : Bool) (k : Int) {w : World} (hm : BoK.Rd w A c m.d) (hb : bmB m = true) (hk : 1 ≤ k ∧ k ≤ 4096) :
  Calls Tryz.prog 30 #[.agg #[.int .i64 m.w, .int .i64 m.h, .slice A m.d.length c], .bool v, .int .i64 k] w (RuK.Ret w (if v then linR (colsR m k) m.w.toNat true else linR (rowsR m k) m.h.toNat false)) := by
 obtain ⟨W, H, d⟩ := m
 obtain ⟨⟨h1, h2, h3, h4, h5⟩, h6⟩ := bmB_iff.1 hb
 dsimp only at *
 obtain ⟨W, rfl⟩ := Int.eq_ofNat_of_zero_le (show 0 ≤ W by omega)
 obtain ⟨H, rfl⟩ := Int.eq_ofNat_of_zero_le (show 0 ≤ H by omega)
 obtain ⟨K, rfl⟩ := Int.eq_ofNat_of_zero_le (show 0 ≤ k by omega)
 rw [← Int.natCast_mul] at h6
 have h := RLines_g W H d A c v K hm (by omega) (by omega) (by omega) (by omega) (by omega)
 cases v
 ·exact h
 ·exact h
theorem lin_len {m : Bm} {k : Int} (hb : bmB m = true) : (linR (rowsR m k) m.h.toNat false).length ≤ 100000000 ∧ (linR (colsR m k) m.w.toNat true).length ≤ 100000000 := by
 obtain ⟨⟨h1, h2, h3, h4, h5⟩, h6⟩ := bmB_iff.1 hb
 have a := linK_len (R := rowsR m k) (h := m.h.toNat) (v := false) (S := m.w.toNat) (fun y => runL_len _ _ _) m.h.toNat
 have b := linK_len (R := colsR m k) (h := m.w.toNat) (v := true) (S := m.h.toNat) (fun y => runL_len _ _ _) m.w.toNat
 have c : m.h.toNat * m.w.toNat ≤ 4096 * 4096 := Nat.mul_le_mul (by omega) (by omega)
 have d : m.w.toNat * m.h.toNat ≤ 4096 * 4096 := Nat.mul_le_mul (by omega) (by omega)
 exact ⟨Nat.le_trans a (by omega), Nat.le_trans b (by omega)⟩
set_option maxRecDepth 100000 in
set_option maxHeartbeats 8000000 in
theorem RRul_g (m : Bm) (A : Option Addr) (c : Nat) (k : Int) {w : World} (hm : BoK.Rd w A c m.d) :
  Calls Tryz.prog 9 #[.agg #[.int .i64 m.w, .int .i64 m.h, .slice A m.d.length c], .int .i64 k] w (RetRL w (rulE m k)) := by
 obtain ⟨E, hE⟩ : ∃ q, rulE m k = q := ⟨_, rfl⟩
 have e1 := hid fun (h : bmB m = false) => hE.symm.trans (rulE_1 (k := k) h)
 have e3 := hid fun (h : bmB m = true) (hk : ¬ (1 ≤ k ∧ k ≤ 4096)) => hE.symm.trans (rulE_3 h hk)
 have e4 := hid fun (h : bmB m = true) (hk : 1 ≤ k ∧ k ≤ 4096) (hl : 4096 < (linE m k).length) => hE.symm.trans (rulE_4 h hk hl)
 have e0 := hid fun (h : bmB m = true) (hk : 1 ≤ k ∧ k ≤ 4096) (hl : ¬ 4096 < (linE m k).length) => hE.symm.trans (rulE_0 h hk hl)
 have HC := hid fun (W : World) => RSnd_g m A c W
 have HL1 := hid fun (hb : bmB m = true) (hk : 1 ≤ k ∧ k ≤ 4096) (W : World) (hw : Below w.heap.size w W) => (show Calls Tryz.prog 30 #[.agg #[.int .i64 m.w, .int .i64 m.h, .slice A m.d.length c], .bool false, .int .i64 k] W (RuK.Ret W (linR (rowsR m k) m.h.toNat false)) from RLines_m m A c false k (hm.below hw) hb hk)
 have HL2 := hid fun (hb : bmB m = true) (hk : 1 ≤ k ∧ k ≤ 4096) (W : World) (hw : Below w.heap.size w W) => (show Calls Tryz.prog 30 #[.agg #[.int .i64 m.w, .int .i64 m.h, .slice A m.d.length c], .bool true, .int .i64 k] W (RuK.Ret W (linR (colsR m k) m.w.toNat true)) from RLines_m m A c true k (hm.below hw) hb hk)
 have hll := hid fun (hb : bmB m = true) => lin_len (k := k) hb
 have hLe := hid (show linR (rowsR m k) m.h.toNat false ++ linR (colsR m k) m.w.toNat true = linE m k from rfl)
 rw [hE]
 clear hE hm
 generalize linR (rowsR m k) m.h.toNat false = L1 at *
 generalize linR (colsR m k) m.w.toNat true = L2 at *
 generalize linE m k = L at *
 generalize bmB m = tb at *
 obtain ⟨W, H, d⟩ := m
 dsimp only at *
 generalize d.length = n at *
 go_enter Tryz.func9, Tryz.ntmps9
 go_upto_region 1 with fail
 refine enterR (P := fun u => Code.wp _ _ _ _ u) (c := [.int .i64 W, .int .i64 H, .slice A n c]) ?_
 intro u HB r0 zn0 hsz
 have c0 : u.cell? ⟨w.heap.size, 0, none⟩ = some (.int .i64 W) := r0 0 _ rfl
 have c1 : u.cell? ⟨w.heap.size, 1, none⟩ = some (.int .i64 H) := r0 1 _ rfl
 have c2 : u.cell? ⟨w.heap.size, 2, none⟩ = some (.slice A n c) := r0 2 _ rfl
 clear r0 zn0 hsz
 go_wp2_with fail
 refine (HC.out u).mono ?_
 rintro e v ⟨rfl, hv⟩
 replace HB := bel_step HB hv
 replace c0 := keep_cell hv c0
 replace c1 := keep_cell hv c1
 replace c2 := keep_cell hv c2
 clear HC hv
 cases tb
 ·obtain rfl := e1.out (by first | rfl | trivial)
  clear e0 e1 e3 e4 HL1 HL2 hll hLe
  go_wp2
  refine bodyPost_ret (v := .tuple #[.slice none 0 0, .int .i64 1]) ?_ rfl ?_
  ·simp [results, Tryz.results9, go_sem]
  ·exact ⟨none, 0, rfl, Knd.Rd.nil _, HB⟩
 ·replace e3 := hid (e3.out (by first | rfl | trivial))
  replace e4 := hid (e4.out (by first | rfl | trivial))
  replace e0 := hid (e0.out (by first | rfl | trivial))
  replace HL1 := hid (HL1.out (by first | rfl | trivial))
  replace HL2 := hid (HL2.out (by first | rfl | trivial))
  obtain ⟨hl1, hl2⟩ := hll.out (by first | rfl | trivial)
  clear e1 hll
  by_cases g1 : k < 1
  ·obtain rfl := e3.out (by omega)
   clear e0 e3 e4 HL1 HL2 hLe
   go_wp2
   refine bodyPost_ret (v := .tuple #[.slice none 0 0, .int .i64 3]) ?_ rfl ?_
   ·simp [results, Tryz.results9, go_sem]
   ·exact ⟨none, 0, rfl, Knd.Rd.nil _, HB⟩
  ·by_cases g2 : 4096 < k
   ·obtain rfl := e3.out (by omega)
    clear e0 e3 e4 HL1 HL2 hLe
    go_wp2
    refine bodyPost_ret (v := .tuple #[.slice none 0 0, .int .i64 3]) ?_ rfl ?_
    ·simp [results, Tryz.results9, go_sem]
    ·exact ⟨none, 0, rfl, Knd.Rd.nil _, HB⟩
   ·have hk : 1 ≤ k ∧ k ≤ 4096 := by omega
    replace e4 := hid (e4.out hk)
    replace e0 := hid (e0.out hk)
    replace HL1 := hid (HL1.out hk)
    replace HL2 := hid (HL2.out hk)
    clear e3 hk
    go_upto_region 5 with fail
    have hws := HB.size
    have hlw := cell_lt c0
    go_cut [6] (fun s6 wx => RuK.Own wx v.heap.size s6 L ∧ Below v.heap.size v wx)
    case first =>
     refine Ords.start (x := 7) (S := fun w' => w'.cell? ⟨w.heap.size, 0, none⟩ = some (.int .i64 W) ∧ w'.cell? ⟨w.heap.size, 1, none⟩ = some (.int .i64 H) ∧ w'.cell? ⟨w.heap.size, 2, none⟩ = some (.slice A n c)) (by kernel_rfl) ⟨c0, c1, c2⟩ (fun hHeld => ?_)
     have hdb : Below v.heap.size v v.drew := (Below.refl _ _).drew
     have HB2 := bel_step HB hdb
     generalize v.drew = xd at hdb HB2 hHeld ⊢
     refine' Ords.take (i := 0) ?_ ?_ ?_ ?_ ?_ ?_ ?_ ?_ ?_
     rotate_left 2
     ·(simp only [List.getElem?_toArray, List.getElem?_cons_succ, List.getElem?_cons_zero]; rfl)
     ·kernel_rfl
     ·kernel_rfl
     ·kernel_rfl
     ·kernel_rfl
     ·exact fun _ _ _ h => h
     ·(refine Or.inl ⟨by rfl, ?_⟩; intro w_ hSw_; (try dsimp only at hSw_); go_simp; (try with_reducible rfl))
     ·assumption
     (try simp only [Act.put, Lp0, Lp1, Lp2])
     refine' Ords.take (i := 1) ?_ ?_ ?_ ?_ ?_ ?_ ?_ ?_ ?_
     rotate_left 2
     ·(simp only [List.getElem?_toArray, List.getElem?_cons_succ, List.getElem?_cons_zero]; rfl)
     ·kernel_rfl
     ·kernel_rfl
     ·kernel_rfl
     ·kernel_rfl
     ·exact fun _ _ _ h => h
     ·(refine Or.inl ⟨by rfl, ?_⟩; intro w_ hSw_; (try dsimp only at hSw_); go_simp; (try with_reducible rfl))
     ·assumption
     (try simp only [Act.put, Lp0, Lp1, Lp2])
     refine' Ords.take (i := 3) ?_ ?_ ?_ ?_ ?_ ?_ ?_ ?_ ?_
     rotate_left 2
     ·(simp only [List.getElem?_toArray, List.getElem?_cons_succ, List.getElem?_cons_zero]; rfl)
     ·kernel_rfl
     ·kernel_rfl
     ·kernel_rfl
     ·kernel_rfl
     ·exact fun _ _ _ h => h
     ·(refine Or.inl ⟨by rfl, ?_⟩; intro w_ hSw_; (try dsimp only at hSw_); go_simp; (try with_reducible rfl))
     ·assumption
     (try simp only [Act.put, Lp0, Lp1, Lp2])
     refine' Ords.take (i := 4) ?_ ?_ ?_ ?_ ?_ ?_ ?_ ?_ ?_
     rotate_left 2
     ·(simp only [List.getElem?_toArray, List.getElem?_cons_succ, List.getElem?_cons_zero]; rfl)
     ·kernel_rfl
     ·kernel_rfl
     ·kernel_rfl
     ·kernel_rfl
     ·exact fun _ _ _ h => h
     ·(refine Or.inl ⟨by rfl, ?_⟩; intro w_ hSw_; (try dsimp only at hSw_); go_simp; (try with_reducible rfl))
     ·assumption
     (try simp only [Act.put, Lp0, Lp1, Lp2])
     refine' Ords.step (i := 2) (by kernel_rfl) (by simp only [List.getElem?_toArray, List.getElem?_cons_succ, List.getElem?_cons_zero]; rfl) (fun K hK => ?_)
     go_simp
     (refine (HL1.out xd HB2).mono ?_; rintro e x1 ⟨s1, rfl, hO1, hq1⟩)
     (try go_wp2_with fail)
     refine hK.out _ _ ?_ (fun hHeld => ?_)
     ·exact ⟨keep_cell hq1 hHeld.1, keep_cell hq1 hHeld.2.1, keep_cell hq1 hHeld.2.2⟩
     clear hK K
     (try simp only [Act.put, Lp0, Lp1, Lp2])
     have HB3 := bel_step HB2 hq1
     refine' Ords.step (i := 5) (by kernel_rfl) (by simp only [List.getElem?_toArray, List.getElem?_cons_succ, List.getElem?_cons_zero]; rfl) (fun K hK => ?_)
     go_simp
     (refine (HL2.out x1 HB3).mono ?_; rintro e x2 ⟨s2, rfl, hO2, hq2⟩)
     (try go_wp2_with fail)
     refine hK.out _ _ ?_ (fun hHeld => ?_)
     ·exact ⟨keep_cell hq2 hHeld.1, keep_cell hq2 hHeld.2.1, keep_cell hq2 hHeld.2.2⟩
     clear hK K
     (try simp only [Act.put, Lp0, Lp1, Lp2])
     replace hO1 := hO1.below hq2
     have hz1 := hdb.size
     have hz2 := hq1.size
     have hz3 := hq2.size
     have hb2 := bel_step hdb (bel_step hq1 hq2)
     have hne : some w.heap.size ≠ s1.ownBlock := fun e => by have := (hO1.lt e.symm).1; omega
     obtain ⟨k0, k1, k2⟩ := hHeld
     have hHeld := And.intro k0 (And.intro k1 k2)
     refine' Ords.step (i := 6) (by kernel_rfl) (by simp only [List.getElem?_toArray, List.getElem?_cons_succ, List.getElem?_cons_zero]; rfl) (fun K hK => ?_)
     (refine Knd.step_appv RuKo rfl (.tmp 18) (.tmp 21) rfl xd.heap.size x1.heap.size s1 s2 L1 L2 rfl hO1 rfl hO2 hl1 hl2 (by omega) ?_; intro v7 w7 hO7 hg7 hat7)
     refine hK.out _ _ ?_ (fun hHeld => ?_)
     ·exact ⟨hg7.cell k0 hne, hg7.cell k1 hne, hg7.cell k2 hne⟩
     clear hK K
     (try simp only [Act.put, Lp0, Lp1, Lp2])
     rw [hLe.out] at hO7
     have hfin := hid (And.intro (hO7.older hz1) (Knd.grown hb2 hO1 hg7 (by omega) hz1))
     clear hO1 hO2 hO7 hg7 hat7 hb2 hq1 hq2 HB2 HB3 hdb
     refine' Ords.last (by kernel_rfl) (by simp only [List.getElem?_toArray, List.getElem?_cons_succ, List.getElem?_cons_zero]; rfl) (by kernel_rfl) (fun K hK => ?_)
     go_simp
     (try go_wp2_with fail)
     refine hK.out _ _ ?_
     clear hK K
     (try simp only [Act.put, Lp0, Lp1, Lp2])
     go_wp2_with fail
     go_meet
     exact hfin.out
    case rest =>
     obtain ⟨hO, hb⟩ := hcut
     replace HB := bel_step HB hb
     clear HL1 HL2 c0 c1 c2 hLe
     obtain ⟨A3, c3, rfl⟩ := hO.form RuKo
     obtain ⟨hrd, -⟩ := hO.rd2 RuKo
     obtain ⟨q, hq⟩ : ∃ q, L.length = q := ⟨_, rfl⟩
     by_cases hl : 4096 < q
     ·obtain rfl := e4.out (by rw [hq]; exact hl)
      have hli : (4096 : Int) < (q : Int) := by omega
      clear e0 e4 hO hrd
      rw [hq]
      clear hq
      go_wp2
      refine bodyPost_ret (v := .tuple #[.slice none 0 0, .int .i64 4]) ?_ rfl ?_
      ·simp [results, Tryz.results9, go_sem]
      ·exact ⟨none, 0, rfl, Knd.Rd.nil _, HB⟩
     ·obtain rfl := e0.out (by rw [hq]; exact hl)
      have hli : ¬ (4096 : Int) < (q : Int) := by omega
      replace hrd := hid hrd
      clear e0 e4 hO
      rw [hq]
      replace hq := hid hq
      go_wp2
      refine bodyPost_ret (v := .tuple #[.slice A3 q c3, .int .i64 0]) ?_ rfl ?_
      ·simp [results, Tryz.results9, go_sem]
      ·exact ⟨A3, c3, by rw [← hq.out], hrd.out, HB⟩
end Go.Proofs.YtjfgklhifhaaoaaGreat
