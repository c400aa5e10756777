/- Reading order: Paragraphs of the package. Conditions: none. -/
import Derived.Test.YtjdgjhaggpahkaaZRw8
set_option linter.unusedVariables false
set_option linter.unusedSimpArgs false
namespace Go.Proofs.Ytjdgjhaggpahkaa
open Go.RowKit Go.Deep
structure ParS where
 low : Int
 L : List (List Nat)
/-- one box more, from top to bottom -/
def parStep (l : List Bx) (gap : Int) (s : ParS) (i : Nat) : ParS :=
 if s.L.length = 0 ∨ s.low + gap < (l.getD i default).y then ⟨(l.getD i default).y + (l.getD i default).h, s.L ++ [[i]]⟩
 else ⟨max s.low ((l.getD i default).y + (l.getD i default).h), s.L.set (s.L.length - 1) (s.L.getD (s.L.length - 1) [] ++ [i])⟩
def parS (l : List Bx) (gap : Int) (D : List Nat) : ParS := D.foldl (parStep l gap) ⟨0, []⟩
theorem parS_snoc (l : List Bx) (gap : Int) (o : List Nat) (i : Nat) : parS l gap (o ++ [i]) = parStep l gap (parS l gap o) i := by unfold parS; rw [List.foldl_append]; rfl
/-- what Paragraphs returns -/
def parE (l : List Bx) (gap : Int) : List (List Nat) × Int := if chkB l gap = 0 then ((parS l gap (dwnB l)).L, 0) else ([], chkB l gap)
theorem infoL2 : (Try.prog.info? 25).map (fun i => (i.zero, i.size, i.bytes)) = some (some (.slice none 0 0), 1, 24) := infoLs
theorem own_form {w : World} {base : Nat} {e : TypeId} {size : Nat} {v : Value} {n : Nat} {xs : List Value} (h : w.ownsRow base e size v n xs) (hn : 0 < n) : ∃ g cap, v = .slice (some ⟨g, 0, none⟩) n cap ∧ base ≤ g ∧ g < w.heap.size := by
 rcases h.2 with ⟨_, h0⟩ | ⟨g, cap, cur, hv, hb, hg, _⟩
 ·omega
 ·exact ⟨g, cap, hv, hb, (Array.getElem?_eq_some_iff.1 hg).1⟩
/-- the last list of an own row of lists -/
theorem Grps.last {w : World} {B B2 : Nat} {e : TypeId} {v : Value} {vs : List Value} {Ls : List (List Nat)} (h : Grps w B B2 e v vs Ls) {k n : Nat} (hk : k + 1 = n) (hn : Ls.length = n) :
  ∃ g cap u, v = .slice (some ⟨g, 0, none⟩) n cap ∧ B ≤ g ∧ g < w.heap.size ∧ w.cell? ⟨g, k, none⟩ = some u ∧ (∀ x, w.frozen? ⟨g, x, none⟩ = false) ∧ OwnZ w B2 u (Ls.getD k []) ∧ (∀ x, u.ownBlock = some x → B2 ≤ x ∧ x < w.heap.size ∧ x ≠ g) ∧
   ∀ (wx w7 : World) (u' : Value) (j : Nat), Below w.heap.size w wx → OwnZ w7 B2 u' (Ls.getD k [] ++ [j]) → wx.grownBy w7 u.ownBlock → (u'.ownBlock = u.ownBlock ∨ u'.ownBlock = some wx.heap.size) →
    ∃ vs', Grps (w7.setCell ⟨g, k, none⟩ u') B B2 e (.slice (some ⟨g, 0, none⟩) n cap) vs' (Ls.set k (Ls.getD k [] ++ [j])) := by
 have hl := h.len
 have hkv : k < vs.length := by omega
 have hkL : k < Ls.length := by omega
 obtain ⟨g, cap, rfl, hg, hgl⟩ := own_form h.out (by omega)
 have hvk : vs.length = n := by omega
 have hgd : Ls.getD k [] = Ls[k] := by simp [hkL]
 rw [hgd]
 rw [hvk] at h ⊢
 have h0 := h.out
 rw [hvk] at h0
 refine ⟨g, cap, vs[k], rfl, hg, hgl, ?_, fun x => World.ownsRow.frozenAt h0 x, h.own k hkv hkL, fun x hx => ⟨((h.own k hkv hkL).lt hx).1, ((h.own k hkv hkL).lt hx).2, fun e => ?_⟩, fun wx w7 u' j hb hO hgr hat => ⟨_, (h.below hb).app hkv hO hgr hat⟩⟩
 ·rw [World.ownsRow.cellAt h0 k (by omega)]
  simp [hkv]
 ·rcases h.far k hkv with q | q
  ·rw [q] at hx; cases hx
  ·exact q (by rw [hx, e]; rfl)
theorem set_lens {Ls : List (List Nat)} {i k j : Nat} (h : ∀ k, (Ls.getD k []).length ≤ i) (k' : Nat) : ((Ls.set k (Ls.getD k [] ++ [j])).getD k' []).length ≤ i + 1 := by
 have h1 := h k'
 have h2 := h k
 rw [List.getD_eq_getElem?_getD, List.getElem?_set]
 by_cases e : k = k'
 ·rw [if_pos e]
  by_cases e2 : k < Ls.length
  ·rw [if_pos e2]; simp at h2 ⊢; omega
  ·rw [if_neg e2]; simp
 ·rw [if_neg e]; simp at h1 ⊢; omega
set_option maxRecDepth 100000 in
set_option maxHeartbeats 16000000 in
theorem GPar_g (l : List Bx) (A : Option Addr) (c : Nat) (gap : Int) {w : World} (hl : Qb w A c l) :
  Calls Try.prog 20 #[.slice A l.length c, .int .i64 gap] w (RetLE w (parE l gap).1 (parE l gap).2) := by
 obtain ⟨n, hn⟩ : ∃ n, l.length = n := ⟨_, rfl⟩
 obtain ⟨k, hk⟩ : ∃ k, chkB l gap = k := ⟨_, rfl⟩
 have HK := hid (show Calls Try.prog 26 #[.slice A n c, .int .i64 gap] w (RetI w k) from by rw [← hk, ← hn]; exact Gchk_g l A c gap hl)
 have E1 := hid fun (h : k ≠ 0) => (show parE l gap = ([], k) from by unfold parE; rw [hk, if_neg h])
 have E2 := hid fun (h : k = 0) => (show parE l gap = ((parS l gap (dwnB l)).L, 0) from by unfold parE; rw [hk, if_pos h])
 have E0 := hid fun (h : k = 0) => chk0 (hk.trans h)
 have HD := hid fun (h : k = 0) (W : World) (hb : Below w.heap.size w W) => (show Calls Try.prog 32 #[.slice A n c] W (RetRow W (dwnB l)) from by
  rw [← hn]; exact GDwn_g l A c (hl.below hb) (chk0 (hk.trans h)).1)
 have cc := Nat.le_trans hl.cap hl.max
 have hl0 := hid hl
 rw [hn] at cc ⊢
 replace hn := hid hn
 obtain ⟨R, hR⟩ : ∃ R, parE l gap = R := ⟨_, rfl⟩
 rw [hR] at E1 E2 ⊢
 clear hl hk hR
 go_enter Try.func20, Try.ntmps20
 go_wp2_with fail
 refine HK.out.mono ?_
 rintro e w1 ⟨rfl, HB⟩
 clear HK
 by_cases hk0 : k = 0
 ·obtain ⟨h4, hg0, hg1, hok⟩ := E0.out hk0
  rw [hn.out] at h4
  have hok2 := hid fun (k : Nat) (hk : k < n) => (show okB (l.getD k default) = true from hok _ (by have := hn.out; simp [show k < l.length by omega]))
  replace HD := hid (HD.out hk0)
  have hRR := hid (E2.out hk0)
  clear E1 E0 E2 hok
  subst hk0
  go_wp2_with fail
  refine (HD.out w1 HB).mono ?_
  rintro e w4 ⟨v, rfl, hRw, hb4⟩
  have HB4 := bel_step HB hb4
  obtain ⟨D, hD⟩ : ∃ D, dwnB l = D := ⟨_, rfl⟩
  have hDl := hid (show D.length = n from by rw [← hD, dwnB_len]; exact hn.out)
  have hDlt := hid fun (i : Nat) (hi : i < D.length) => (show D[i] < n from by
   have h1 : D[i] ∈ dwnB l := hD ▸ List.getElem_mem hi
   rw [dwnB_lt] at h1
   have := hn.out; omega)
  rw [hD] at hRw hRR
  have hZ := hRw.zs
  obtain ⟨Av, cv, hv, hcv1, hcv2⟩ := hZ.form
  rw [hDl.out] at hv hcv1
  subst hv
  have hRc := hid fun (W : World) (hb : Below w4.heap.size w4 W) (i : Nat) (hi : i < D.length) => (hZ.below hb).at_ (j := i) hi
  have hG0 := Grps.nil w4 w4.heap.size w4.heap.size 25
  have hbo := Below.refl w4.heap.size w4
  replace hD := hid hD
  clear HD hRw hZ hb4
  go_wp2
  go_loopw [20, 7, 8] (fun s20 s7 s8 wr => ∃ (i : Nat) (vs : List Value) (low : Int) (Ls : List (List Nat)), s20 = .int .i64 (i : Int) ∧ i ≤ n ∧ s8 = .int .i64 low ∧ Hid (parS l gap (D.take i) = ⟨low, Ls⟩) ∧ Grps wr w4.heap.size w4.heap.size 25 s7 vs Ls ∧ Ls.length ≤ i ∧ -8192 ≤ low ∧ low ≤ 8192 ∧ Hid (∀ k, (Ls.getD k []).length ≤ i) ∧ Below w4.heap.size w4 wr ∧ w4.heap.size ≤ wr.heap.size) (fun s20 _ _ _ => n - (intOf s20).toNat)
  case atStart => exact ⟨0, [], 0, [], rfl, by omega, rfl, rfl, hG0, by simp, by omega, by omega, fun k => by simp, hbo, Nat.le_refl _⟩
  case round =>
   clear hG0 hbo
   obtain ⟨i, vs, low, Ls, rfl, hi, rfl, hS, hG, hLi, hl1, hl2, hLk0, hb, hz⟩ := hrel
   obtain ⟨Ax, cx, hvx⟩ : ∃ Ax cx, u7 = .slice Ax Ls.length cx := by
    obtain ⟨A', c', e, _⟩ := hG.zls.form
    exact ⟨A', c', e⟩
   subst hvx
   obtain ⟨m, hm⟩ : ∃ m, Ls.length = m := ⟨_, rfl⟩
   rw [hm] at hG hLi ⊢
   by_cases hin : i < n
   ·have hii : (i : Int) < (n : Int) := by omega
    have hil : i < D.length := by have := hDl.out; omega
    obtain ⟨g2, o2, hA2, co⟩ := hRc.out wr hb i hil
    subst hA2
    have hjn := hDlt.out i hil
    have hst : parS l gap (D.take (i + 1)) = parStep l gap ⟨low, Ls⟩ D[i] := by
     rw [List.take_succ_eq_append_getElem hil, parS_snoc, hS.out]
    obtain ⟨j, hj⟩ : ∃ j, D[i] = j := ⟨_, rfl⟩
    rw [hj] at co hjn hst
    unfold intV at co
    obtain ⟨b, o, hA⟩ : ∃ b o, A = some ⟨b, o, none⟩ := by
     obtain ⟨b, o, hA, _⟩ := hl0.out.at_ (k := 0) (by have := hn.out; omega)
     exact ⟨b, o, hA⟩
    subst hA
    obtain ⟨q0, q1, q2, q3⟩ := (hl0.out.below (bel_step HB4 hb)).xy hn.out hjn
    have hbA := hid (show b < w4.heap.size from by
     obtain ⟨b', o', e, h1, _⟩ := hl0.out.rd (by have := hn.out; omega)
     cases e; exact Nat.lt_of_lt_of_le h1 HB4.size)
    obtain ⟨k1, k2, k3, k4, k5, k6, k7, k8⟩ := okB_b (hok2.out j hjn)
    unfold parStep at hst
    generalize l.getD j default = q at *
    obtain ⟨x, y, bw, bh⟩ := q
    dsimp only at q0 q1 q2 q3 k1 k2 k3 k4 k5 k6 k7 k8 hst
    have hjj : (j : Int) < (n : Int) := by omega
    have w1' : IntKind.i64.wrap (y + bh) = y + bh := by rw [IntKind.wrap_i64]; omega
    have w2' : IntKind.i64.wrap (low + gap) = low + gap := by rw [IntKind.wrap_i64]; omega
    have hLlen0 : ∀ k, (Ls.getD k []).length ≤ 1000000 := fun k => Nat.le_trans (hLk0.out k) (by omega)
    replace hLlen0 := hid hLlen0
    clear hj hS q0 q2 hRc hDlt hok2
    by_cases hc0 : m = 0 ∨ low + gap < y
    ·rw [if_pos (hm ▸ hc0)] at hst
     obtain ⟨m1, hm1⟩ : ∃ z, m + 1 = z := ⟨_, rfl⟩
     have w4' : IntKind.i64.wrap ((m1 : Int) - 1) = (m : Int) := by rw [IntKind.wrap_i64]; omega
     have hkm : (m : Int) < (m1 : Int) := by omega
     have hmx : max (y + bh) (y + bh) = y + bh := by omega
     have hb1 : -8192 ≤ y + bh ∧ y + bh ≤ 8192 := by omega
     have hset := hid (show (Ls ++ [[]]).set m ((Ls ++ [[]]).getD m [] ++ [j]) = Ls ++ [[j]] from by subst hm; simp)
     have hLlen : ((Ls ++ [[]]).getD m []).length ≤ 1000000 := by subst hm; simp
     have hl2' := hid (show (Ls ++ [[]]).length = m1 from by simp; omega)
     have hln := hid (fun k => (show ((Ls ++ [[j]]).getD k []).length ≤ i + 1 from by
      have h1 := hLk0.out k
      by_cases e : k < Ls.length
      ·rw [List.getD_eq_getElem?_getD, List.getElem?_append_left e]; simp at h1 ⊢; omega
      ·rw [List.getD_eq_getElem?_getD, List.getElem?_append_right (by omega)]
       by_cases e2 : k - Ls.length = 0
       ·rw [e2]; simp
       ·rw [List.getElem?_eq_none (by simp; omega)]; simp))
     have hvm : vs.length = m := by rw [hG.len]; exact hm
     have hGx := hG.below ((Below.refl _ _).alloc (Nat.le_refl _) (.cells #[.slice none 0 0] 25))
     have hox := hGx.out
     have hbx := hb.alloc hz (.cells #[.slice none 0 0] 25)
     have hvl : vs.length ≤ 1000000 := by omega
     have q1 := keep_alloc (b := .cells #[.slice none 0 0] 25) q1
     have q3 := keep_alloc (b := .cells #[.slice none 0 0] 25) q3
     have hpush := hid fun (v5 : Value) (w5 : World) hO5 hg5 hat5 => hGx.push (w' := w5) (v' := v5) (u := .slice none 0 0) (l := []) hO5 hg5 hat5 (OwnZ.nil _ _) (fun j h => (by cases vs[j].ownBlock <;> simp [Value.ownBlock])) (.inl rfl)
     replace hst := hid hst
     replace hm1 := hid hm1
     replace hm := hid hm
     clear hLk0 hGx
     rcases Nat.eq_zero_or_pos m with hz0 | hz0
     ·subst hz0
      clear hc0
      go_upto_region 11 with (at_builtin; go_loud (refine wpList_appV rfl (.tmp 38) (.tmp 39) 33 25 (.slice none 0 0) 24 (by omega) rfl Try.underlying33 infoL2 rfl w4.heap.size (.slice Ax 0 cx) vs (.slice none 0 0) wr.heap.size rfl hox rfl (at_one rfl) rfl hvl (by simp; omega) ?_); intro v5 w5 hO5 hg5 hat5)
      have hG5 := hpush.out v5 w5 hO5 hg5 hat5
      have hb5 := Below.grown hbx hg5 (by simp; omega) (fun b e => (World.ownsRow.lt hox b e).1)
      have q1 := hg5.cell q1 (fun e => by have := (World.ownsRow.lt hox b e.symm).1; have := hbA.out; omega)
      have q3 := hg5.cell q3 (fun e => by have := (World.ownsRow.lt hox b e.symm).1; have := hbA.out; omega)
      have hz5 : w4.heap.size ≤ w5.heap.size := by have := hg5.size; simp at this; omega
      obtain ⟨A5, c5, hv5, _⟩ := hG5.zls.form
      rw [hl2'.out] at hv5
      subst hv5
      clear hO5 hg5 hat5 hpush hox hbx hG hb hz
      have hG := hG5
      have hb := hb5
      have hz := hz5
      clear hG5 hb5 hz5
      go_quiet (fail)
      have hv : Below w5.heap.size w5 (w5.drewN nq) := below_drewN (Below.refl _ _) _
      generalize hvq : w5.drewN nq = v1 at hv ⊢
      clear hvq
      have q1 := keep_cell hv q1
      have q3 := keep_cell hv q3
      have hG := hG.below hv
      have hb := hb.trans (hv.mono hz)
      have hz := Nat.le_trans hz hv.size
      clear hv nq
      go_upto_region 12 with fail
      go_quiet (fail)
      have hv : Below v1.heap.size v1 (v1.drewN nq) := below_drewN (Below.refl _ _) _
      generalize hvq : v1.drewN nq = v2 at hv ⊢
      clear hvq
      have q1 := keep_cell hv q1
      have q3 := keep_cell hv q3
      have hG := hG.below hv
      have hb := hb.trans (hv.mono hz)
      have hz := Nat.le_trans hz hv.size
      clear hv nq
      obtain ⟨gx, capx, u, hvx, hgx1, hgx2, c1, fz1, hOk, hub, happ⟩ := hG.last (k := 0) (n := m1) hm1.out hl2'.out
      injection hvx with hvx1 hvx2 hvx3
      subst hvx1 hvx3
      clear hvx2
      have hLl : ((Ls ++ [[]]).getD 0 []).length ≤ 1000000 := hLlen
      obtain ⟨Lk, hLk⟩ : ∃ z, (Ls ++ [[]]).getD 0 [] = z := ⟨_, rfl⟩
      rw [hLk] at hOk hLl happ
      have hOx := hOk.below ((Below.refl _ _).alloc (Nat.le_refl _) (.cells #[.int .i64 (j : Int)] 3))
      have hbx := hb.alloc hz (.cells #[.int .i64 (j : Int)] 3)
      have happ2 := hid fun (w7 : World) (u' : Value) (hO : OwnZ w7 w4.heap.size u' (Lk ++ [j])) (hg : (v2.alloc (.cells #[.int .i64 (j : Int)] 3)).grownBy w7 u.ownBlock) (hat : u'.ownBlock = u.ownBlock ∨ u'.ownBlock = some (v2.alloc (.cells #[.int .i64 (j : Int)] 3)).heap.size) => happ _ w7 u' j ((Below.refl _ _).alloc (Nat.le_refl _) _) hO hg hat
      replace hub := hid hub
      replace hLk := hid hLk
      have d1 := keep_alloc (b := .cells #[.int .i64 (j : Int)] 3) c1
      have fd : ∀ x, (v2.alloc (.cells #[.int .i64 (j : Int)] 3)).frozen? ⟨gx, x, none⟩ = false := fun x => (World.frozen?_of_block (a := ⟨gx, x, none⟩) (heap_alloc_old v2 _ hgx2)).trans (fz1 x)
      have hgx3 : gx < (v2.alloc (.cells #[.int .i64 (j : Int)] 3)).heap.size := by simp; omega
      clear fz1 hOk hG happ
      go_wp2_with (at_builtin; go_loud (refine wpList_app1 rfl (.tmp 74) (.tmp 76) rfl w4.heap.size u Lk j v2.heap.size rfl hOx rfl (at_one rfl) hLl (by simp; omega) ?_); intro u' w7 hO7 hg7 hat7; obtain ⟨vs', hG7⟩ := happ2.out w7 u' hO7 hg7 hat7; have hne7 : some gx ≠ u.ownBlock := (fun e => (hub.out gx e.symm).2.2 rfl); have e1 := hg7.cell d1 hne7; have fz7 := fun x => (World.frozen?_of_block (a := ⟨gx, x, none⟩) (hg7.block _ hgx3 hne7)).trans (fd x); have hb7 := below_set (Below.grown hbx hg7 (by simp; omega) (fun b e => (hub.out b e).1)) hgx1 0 u'; have hz7 := hg7.size; obtain ⟨A7, c7, hu7⟩ := hO7.form; obtain ⟨m7, hm7⟩ : ∃ z, (Lk ++ [j]).length = z := ⟨_, rfl⟩; rw [hm7] at hu7; subst hu7; have hG7 := hid hG7; have hb7 := hid hb7; have hm7 := hid hm7; clear hO7 hg7 hat7)
      have hset2 := hset.out
      rw [hLk.out] at hset2
      rw [hset2] at hG7
      go_roundw
      case rel => exact ⟨i + 1, vs', y + bh, _, by go_num, by omega, rfl, hst, hG7.out, by have := hm.out; simp; omega, hb1.1, hb1.2, hln, hb7.out, by rw [World.size_setCell]; omega⟩
      case measure => simp [intOf]; omega
     ·have hce : ((m : Int) == 0) = false := beq_eq_false_iff_ne.2 (by omega)
      have hce2 : ¬ (m : Int) = 0 := by omega
      have hcx : low + gap < y := by omega
      clear hc0
      go_upto_region 11 with (at_builtin; go_loud (refine wpList_appV rfl (.tmp 38) (.tmp 39) 33 25 (.slice none 0 0) 24 (by omega) rfl Try.underlying33 infoL2 rfl w4.heap.size (.slice Ax m cx) vs (.slice none 0 0) wr.heap.size rfl hox rfl (at_one rfl) rfl hvl (by simp; omega) ?_); intro v5 w5 hO5 hg5 hat5)
      have hG5 := hpush.out v5 w5 hO5 hg5 hat5
      have hb5 := Below.grown hbx hg5 (by simp; omega) (fun b e => (World.ownsRow.lt hox b e).1)
      have q1 := hg5.cell q1 (fun e => by have := (World.ownsRow.lt hox b e.symm).1; have := hbA.out; omega)
      have q3 := hg5.cell q3 (fun e => by have := (World.ownsRow.lt hox b e.symm).1; have := hbA.out; omega)
      have hz5 : w4.heap.size ≤ w5.heap.size := by have := hg5.size; simp at this; omega
      obtain ⟨A5, c5, hv5, _⟩ := hG5.zls.form
      rw [hl2'.out] at hv5
      subst hv5
      clear hO5 hg5 hat5 hpush hox hbx hG hb hz
      have hG := hG5
      have hb := hb5
      have hz := hz5
      clear hG5 hb5 hz5
      go_quiet (fail)
      have hv : Below w5.heap.size w5 (w5.drewN nq) := below_drewN (Below.refl _ _) _
      generalize hvq : w5.drewN nq = v1 at hv ⊢
      clear hvq
      have q1 := keep_cell hv q1
      have q3 := keep_cell hv q3
      have hG := hG.below hv
      have hb := hb.trans (hv.mono hz)
      have hz := Nat.le_trans hz hv.size
      clear hv nq
      go_upto_region 12 with fail
      go_quiet (fail)
      have hv : Below v1.heap.size v1 (v1.drewN nq) := below_drewN (Below.refl _ _) _
      generalize hvq : v1.drewN nq = v2 at hv ⊢
      clear hvq
      have q1 := keep_cell hv q1
      have q3 := keep_cell hv q3
      have hG := hG.below hv
      have hb := hb.trans (hv.mono hz)
      have hz := Nat.le_trans hz hv.size
      clear hv nq
      obtain ⟨gx, capx, u, hvx, hgx1, hgx2, c1, fz1, hOk, hub, happ⟩ := hG.last (k := m) (n := m1) hm1.out hl2'.out
      injection hvx with hvx1 hvx2 hvx3
      subst hvx1 hvx3
      clear hvx2
      have hLl : ((Ls ++ [[]]).getD m []).length ≤ 1000000 := hLlen
      obtain ⟨Lk, hLk⟩ : ∃ z, (Ls ++ [[]]).getD m [] = z := ⟨_, rfl⟩
      rw [hLk] at hOk hLl happ
      have hOx := hOk.below ((Below.refl _ _).alloc (Nat.le_refl _) (.cells #[.int .i64 (j : Int)] 3))
      have hbx := hb.alloc hz (.cells #[.int .i64 (j : Int)] 3)
      have happ2 := hid fun (w7 : World) (u' : Value) (hO : OwnZ w7 w4.heap.size u' (Lk ++ [j])) (hg : (v2.alloc (.cells #[.int .i64 (j : Int)] 3)).grownBy w7 u.ownBlock) (hat : u'.ownBlock = u.ownBlock ∨ u'.ownBlock = some (v2.alloc (.cells #[.int .i64 (j : Int)] 3)).heap.size) => happ _ w7 u' j ((Below.refl _ _).alloc (Nat.le_refl _) _) hO hg hat
      replace hub := hid hub
      replace hLk := hid hLk
      have d1 := keep_alloc (b := .cells #[.int .i64 (j : Int)] 3) c1
      have fd : ∀ x, (v2.alloc (.cells #[.int .i64 (j : Int)] 3)).frozen? ⟨gx, x, none⟩ = false := fun x => (World.frozen?_of_block (a := ⟨gx, x, none⟩) (heap_alloc_old v2 _ hgx2)).trans (fz1 x)
      have hgx3 : gx < (v2.alloc (.cells #[.int .i64 (j : Int)] 3)).heap.size := by simp; omega
      clear fz1 hOk hG happ
      go_wp2_with (at_builtin; go_loud (refine wpList_app1 rfl (.tmp 74) (.tmp 76) rfl w4.heap.size u Lk j v2.heap.size rfl hOx rfl (at_one rfl) hLl (by simp; omega) ?_); intro u' w7 hO7 hg7 hat7; obtain ⟨vs', hG7⟩ := happ2.out w7 u' hO7 hg7 hat7; have hne7 : some gx ≠ u.ownBlock := (fun e => (hub.out gx e.symm).2.2 rfl); have e1 := hg7.cell d1 hne7; have fz7 := fun x => (World.frozen?_of_block (a := ⟨gx, x, none⟩) (hg7.block _ hgx3 hne7)).trans (fd x); have hb7 := below_set (Below.grown hbx hg7 (by simp; omega) (fun b e => (hub.out b e).1)) hgx1 m u'; have hz7 := hg7.size; obtain ⟨A7, c7, hu7⟩ := hO7.form; obtain ⟨m7, hm7⟩ : ∃ z, (Lk ++ [j]).length = z := ⟨_, rfl⟩; rw [hm7] at hu7; subst hu7; have hG7 := hid hG7; have hb7 := hid hb7; have hm7 := hid hm7; clear hO7 hg7 hat7)
      have hset2 := hset.out
      rw [hLk.out] at hset2
      rw [hset2] at hG7
      go_roundw
      case rel => exact ⟨i + 1, vs', y + bh, _, by go_num, by omega, rfl, hst, hG7.out, by have := hm.out; simp; omega, hb1.1, hb1.2, hln, hb7.out, by rw [World.size_setCell]; omega⟩
      case measure => simp [intOf]; omega
    ·rw [hm, if_neg hc0] at hst
     obtain ⟨k, hk⟩ : ∃ z, z + 1 = m := ⟨m - 1, by omega⟩
     rw [show m - 1 = k by omega] at hst
     have w4' : IntKind.i64.wrap ((m : Int) - 1) = (k : Int) := by rw [IntKind.wrap_i64]; omega
     have hce : ((m : Int) == 0) = false := beq_eq_false_iff_ne.2 (by omega)
     have hce2 : ¬ (m : Int) = 0 := by omega
     have hcx : ¬ low + gap < y := by omega
     have hkm : (k : Int) < (m : Int) := by omega
     obtain ⟨em, hem⟩ : ∃ z, max low (y + bh) = z := ⟨_, rfl⟩
     have hb1 : -8192 ≤ em ∧ em ≤ 8192 := by omega
     rw [hem] at hst
     replace hst := hid hst
     have hLlen := hLlen0.out k
     go_upto_region 12 with fail
     go_quiet (fail)
     have hv : Below wr.heap.size wr (wr.drewN nq) := below_drewN (Below.refl _ _) _
     generalize hvq : wr.drewN nq = v2 at hv ⊢
     clear hvq
     have q1 := keep_cell hv q1
     have q3 := keep_cell hv q3
     have hG := hG.below hv
     have hb := hb.trans (hv.mono hz)
     have hz := Nat.le_trans hz hv.size
     clear hv nq
     have hln := hid (set_lens (k := k) (j := j) hLk0.out)
     replace hm := hid hm
     replace hk := hid hk
     obtain ⟨gx, capx, u, hvx, hgx1, hgx2, c1, fz1, hOk, hub, happ⟩ := hG.last (k := k) (n := m) hk.out hm.out
     injection hvx with hvx1 hvx2 hvx3
     subst hvx1 hvx3
     clear hvx2
     have hLl : ((Ls).getD k []).length ≤ 1000000 := hLlen
     obtain ⟨Lk, hLk⟩ : ∃ z, (Ls).getD k [] = z := ⟨_, rfl⟩
     rw [hLk] at hOk hLl happ
     have hOx := hOk.below ((Below.refl _ _).alloc (Nat.le_refl _) (.cells #[.int .i64 (j : Int)] 3))
     have hbx := hb.alloc hz (.cells #[.int .i64 (j : Int)] 3)
     have happ2 := hid fun (w7 : World) (u' : Value) (hO : OwnZ w7 w4.heap.size u' (Lk ++ [j])) (hg : (v2.alloc (.cells #[.int .i64 (j : Int)] 3)).grownBy w7 u.ownBlock) (hat : u'.ownBlock = u.ownBlock ∨ u'.ownBlock = some (v2.alloc (.cells #[.int .i64 (j : Int)] 3)).heap.size) => happ _ w7 u' j ((Below.refl _ _).alloc (Nat.le_refl _) _) hO hg hat
     replace hub := hid hub
     replace hLk := hid hLk
     have d1 := keep_alloc (b := .cells #[.int .i64 (j : Int)] 3) c1
     have fd : ∀ x, (v2.alloc (.cells #[.int .i64 (j : Int)] 3)).frozen? ⟨gx, x, none⟩ = false := fun x => (World.frozen?_of_block (a := ⟨gx, x, none⟩) (heap_alloc_old v2 _ hgx2)).trans (fz1 x)
     have hgx3 : gx < (v2.alloc (.cells #[.int .i64 (j : Int)] 3)).heap.size := by simp; omega
     clear fz1 hOk hG happ
     go_wp2_with (at_builtin; go_loud (refine wpList_app1 rfl (.tmp 74) (.tmp 76) rfl w4.heap.size u Lk j v2.heap.size rfl hOx rfl (at_one rfl) hLl (by simp; omega) ?_); intro u' w7 hO7 hg7 hat7; obtain ⟨vs', hG7⟩ := happ2.out w7 u' hO7 hg7 hat7; have hne7 : some gx ≠ u.ownBlock := (fun e => (hub.out gx e.symm).2.2 rfl); have e1 := hg7.cell d1 hne7; have fz7 := fun x => (World.frozen?_of_block (a := ⟨gx, x, none⟩) (hg7.block _ hgx3 hne7)).trans (fd x); have hb7 := below_set (Below.grown hbx hg7 (by simp; omega) (fun b e => (hub.out b e).1)) hgx1 k u'; have hz7 := hg7.size; obtain ⟨A7, c7, hu7⟩ := hO7.form; obtain ⟨m7, hm7⟩ : ∃ z, (Lk ++ [j]).length = z := ⟨_, rfl⟩; rw [hm7] at hu7; subst hu7; have hG7 := hid hG7; have hb7 := hid hb7; have hm7 := hid hm7; clear hO7 hg7 hat7)
     rw [hLk.out] at hst hln
     go_roundw
     case rel => exact ⟨i + 1, vs', em, _, by go_num, by omega, rfl, hst, hG7.out, by rw [List.length_set]; have := hm.out; omega, hb1.1, hb1.2, hln, hb7.out, by rw [World.size_setCell]; omega⟩
     case measure => simp [intOf]; omega
   ·obtain rfl : i = n := by omega
    have hii : ¬ (i : Int) < (i : Int) := by omega
    have hRe : R = (Ls, 0) := by
     rw [hRR.out, ← List.take_of_length_le (l := D) (i := i) (by have := hDl.out; omega), hS.out]
    subst hRe
    have hres := hid (show RetLE w Ls 0 (.returned (.tuple #[.slice Ax m cx, .int .i64 0])) wr from ⟨_, rfl, hG.zls, bel_step HB4 hb⟩)
    clear hG hS hRc hRR
    go_wp2
    refine bodyPost_ret (v := .tuple #[.slice Ax m cx, .int .i64 0]) ?_ rfl ?_
    ·simp [results, Try.results20, go_sem]
    ·exact hres.out
 ·obtain rfl := E1.out hk0
  clear E1 E0 E2 HD
  go_wp2
  refine bodyPost_ret (v := .tuple #[.slice none 0 0, .int .i64 k]) ?_ rfl ?_
  ·simp [results, Try.results20, go_sem]
  ·exact ⟨_, rfl, Zls.nil _, HB⟩
end Go.Proofs.Ytjdgjhaggpahkaa
