/- Reading order: the number of each box's column. Conditions: at most 4096 valid boxes, a gap of 0 to 4096. -/
import Derived.Test.YtjdgjhaggpahkaaZRs4
set_option linter.unusedVariables false
set_option linter.unusedSimpArgs false
namespace Go.Proofs.Ytjdgjhaggpahkaa
open Go.RowKit Go.Deep Go.Shelf Go.Lib Go.Sort
def updF (f : Nat → Nat) (i v : Nat) : Nat → Nat := fun j => if j = i then v else f j
structure NumS where
 c : Nat
 e : Int
 f : Nat → Nat
/-- one box more, from left to right -/
def numStep (l : List Bx) (gap : Int) (s : NumS) (i : Nat) : NumS :=
 if s.c = 0 ∨ s.e + gap ≤ (l.getD i default).x then ⟨s.c + 1, (l.getD i default).x + (l.getD i default).w, updF s.f i s.c⟩
 else ⟨s.c, max s.e ((l.getD i default).x + (l.getD i default).w), updF s.f i (s.c - 1)⟩
def numS (l : List Bx) (gap : Int) (o : List Nat) : NumS := o.foldl (numStep l gap) ⟨0, 0, fun _ => 0⟩
theorem numS_snoc (l : List Bx) (gap : Int) (o : List Nat) (i : Nat) : numS l gap (o ++ [i]) = numStep l gap (numS l gap o) i := by unfold numS; rw [List.foldl_append]; rfl
theorem okB_b {b : Bx} (h : okB b = true) : -4096 ≤ b.x ∧ b.x ≤ 4096 ∧ -4096 ≤ b.y ∧ b.y ≤ 4096 ∧ 1 ≤ b.w ∧ b.w ≤ 4096 ∧ 1 ≤ b.h ∧ b.h ≤ 4096 := okB_iff.1 h
/-- what comes back: an order by the left edges, the columns' numbers of it -/
def RetNum (l : List Bx) (gap : Int) (n : Nat) (w : World) (e : Ending) (w' : World) : Prop :=
 ∃ (O : List Nat) (g : Nat), O.Perm (List.range n) ∧ SrtX l O ∧ e = .returned (.tuple #[.slice (some ⟨g, 0, none⟩) n n, .int .i64 ((numS l gap O).c : Int)]) ∧
  w.heap.size ≤ g ∧ w'.rowIs g 3 n (fun j => intV ((numS l gap O).f j)) ∧ Go.RowKit.Below w.heap.size w w'
set_option maxRecDepth 100000 in
set_option maxHeartbeats 16000000 in
theorem GNum_g (l : List Bx) (A : Option Addr) (c : Nat) (gap : Int) {w : World} (hl : Qb w A c l) (h4 : l.length ≤ 4096) (hok : ∀ b ∈ l, okB b = true) (hg0 : 0 ≤ gap) (hg1 : gap ≤ 4096) :
  Calls Try.prog 31 #[.slice A l.length c, .int .i64 gap] w (RetNum l gap l.length w) := by
 obtain ⟨n, hn⟩ : ∃ n, l.length = n := ⟨_, rfl⟩
 have cc := Nat.le_trans hl.cap hl.max
 have HD := hid fun (W : World) (hb : Go.RowKit.Below w.heap.size w W) => (show Calls Try.prog 32 #[.slice A n c] W (RetRow W (dwnB l)) from by rw [← hn]; exact GDwn_g l A c (hl.below hb) h4)
 rw [hn] at cc h4 ⊢
 have hl0 := hid hl
 have hok2 := hid fun (k : Nat) (hk : k < n) => (show okB (l.getD k default) = true from hok _ (by simp [show k < l.length by omega]))
 replace hn := hid hn
 clear hl hok
 have hmk := run_make_row' (P := Try.prog) 25 3 (.int .i64 0) 8 Try.underlying25 infoZ rfl .i64 .i64 n (by omega) (by omega)
 go_enter Try.func31, Try.ntmps31
 go_upto_region 1 with fail
 refine enterR (P := fun u => Code.wp _ _ _ _ u) (c := [.slice A n c]) ?_
 intro w1 HB r0 zn0 hsz
 have c0 : w1.cell? ⟨w.heap.size, 0, none⟩ = some (.slice A n c) := r0 0 _ rfl
 have hs1 := hid (show w.heap.size + 1 = w1.heap.size from hsz.out.symm)
 clear r0 zn0 hsz
 go_wp2_with fail
 refine (HD.out w1 HB).mono ?_
 rintro e w2 ⟨v, rfl, hR, hb⟩
 have c2 := keep_cell hb c0
 have HB2 := bel_step HB hb
 have hsz2 := hb.size
 clear HD c0 hb
 have hDl := hid (show (dwnB l).length = n from (dwnB_len l).trans hn.out)
 rcases Nat.eq_zero_or_pos n with h0 | h0
 ·subst h0
  have hv : v = .slice none 0 0 := by
   rcases hR with ⟨_, h⟩ | ⟨g, cp, h, _⟩
   ·exact h
   ·have := hDl.out; omega
  subst hv
  have hC := hid fun (fv : Value) (W : World) => sst_nil fv W
  have hmk0 : ∀ w : World, (Instr.makeSlice 25 (.int .i64 0) (.int .i64 0)).run Try.prog w = .ok (.slice (some ⟨w.heap.size, 0, none⟩) 0 0) (w.alloc (.cells (madeCells #[.int .i64 0] 0) 3)) := fun w => hmk w
  have hrow := World.rowIs_made w2 (.int .i64 0) 0 3
  have hres := hid (show RetNum l gap 0 w (.returned (.tuple #[.slice (some ⟨w2.heap.size, 0, none⟩) 0 0, .int .i64 0])) (w2.alloc (.cells (madeCells #[.int .i64 0] 0) 3)) from
   ⟨[], w2.heap.size, List.Perm.refl _, List.Pairwise.nil, rfl, HB2.size, hrow.congr (fun j hj => by omega), HB2.alloc HB2.size _⟩)
  clear hR HB2 hrow
  go_wp2_with fail
  refine (hC.out _ _).mono ?_
  rintro e w3 ⟨rfl, rfl⟩
  clear hC
  go_wp2
  refine wp_loop_rounds 1 ?_
  rw [rounds_succ]
  go_wp2
  refine bodyPost_ret (v := .tuple #[.slice (some ⟨w3.heap.size, 0, none⟩) 0 0, .int .i64 0]) ?_ rfl ?_
  ·simp [results, Try.results31, go_sem]
  ·exact hres.out
 ·obtain ⟨m, hm⟩ : ∃ m, m + 1 = n := ⟨n - 1, by omega⟩
  obtain ⟨b, o, hA⟩ : ∃ b o, A = some ⟨b, o, none⟩ := by
   obtain ⟨b, o, hA, _⟩ := hl0.out.at_ (k := 0) (by have := hn.out; omega)
   exact ⟨b, o, hA⟩
  subst hA
  have hq := hl0.out.below HB2
  have hbl : b < w.heap.size := by
   obtain ⟨b', o', e, h1, _⟩ := hl0.out.rd (by have := hn.out; omega)
   cases e; exact h1
  rcases hR with ⟨h, _⟩ | ⟨g, cap, _, hv, hg, hgl, hc1, hc2, hcel, hfz⟩
  ·have := hDl.out; rw [h] at this; simp at this; omega
  ·rw [hDl.out] at hv hc1
   subst hv
   have hgw : w.heap.size < g := by have := hs1.out; omega
   have hC := hid (stb_row l m b o c w.heap.size g cap (dwnB l) (w := w2) (by rw [hm]; exact hn.out) hq (Nat.lt_of_lt_of_le hbl HB2.size) (c2.trans (by rw [hm])) (by omega) (by omega) hgl (by rw [hm]; exact hDl.out) (fun i hi => by rw [dwnB_lt] at hi; have := hn.out; omega) hcel hfz (by omega) g (Nat.le_refl _) (Nat.le_of_lt hgl))
   rw [hm] at hC
   clear hq hfz hm
   go_wp2_with fail
   refine hC.out.mono ?_
   rintro e w3 ⟨rfl, O, hP, hS, hcO, hb3⟩
   have hB3 := hid (HB2.trans (hb3.mono (Nat.le_of_lt hgw)))
   have hg3 := Nat.lt_of_lt_of_le hgl hb3.size
   have c3 := (hb3.cell (p := ⟨w.heap.size, 0, none⟩) hgw).trans c2
   have hPr := hid (hP.trans (hn.out ▸ dwnB_perm l))
   have hOl := hid (show O.length = n from by rw [hP.length_eq]; exact hDl.out)
   have hOlt := hid fun (i : Nat) (hi : i < O.length) => (show O[i] < n from by
    have := hP.mem_iff.1 (List.getElem_mem hi)
    rw [dwnB_lt] at this
    have := hn.out; omega)
   have hrow := World.rowIs_made w3 (.int .i64 0) n 3
   have hb0 : Go.RowKit.Below w3.heap.size w3 (w3.alloc (.cells (madeCells #[.int .i64 0] n) 3)) := (Go.RowKit.Below.refl _ _).alloc (Nat.le_refl _) _
   replace hS := hid hS
   have hc3 := hid hcO
   have hcc3 := hid c3
   clear hC hcO hP c2 hb3 HB2 hcel
   go_wp2
   go_loopw [22, 8, 9] (fun s22 s8 s9 wr => ∃ (i : Nat) (S : NumS), s22 = .int .i64 (i : Int) ∧ i ≤ n ∧ Hid (numS l gap (O.take i) = S) ∧ s8 = .int .i64 (S.c : Int) ∧ s9 = .int .i64 S.e ∧ S.c ≤ i ∧ -8192 ≤ S.e ∧ S.e ≤ 8192 ∧ wr.rowIs w3.heap.size 3 n (fun j => intV (S.f j)) ∧ Go.RowKit.Below w3.heap.size w3 wr) (fun s22 _ _ _ => n - (intOf s22).toNat)
   case atStart => exact ⟨0, ⟨0, 0, fun _ => 0⟩, rfl, by omega, rfl, rfl, rfl, Nat.le_refl _, by simp, by simp, hrow, hb0⟩
   case round =>
    clear hrow hb0 c3
    obtain ⟨i, ⟨cnt, e, f⟩, rfl, hi, hN, rfl, rfl, hci, he1, he2, hT, hb⟩ := hrel
    dsimp only at hN hci he1 he2 hT
    by_cases hin : i < n
    ·have hii : (i : Int) < (n : Int) := by omega
     have hil : i < O.length := by have := hOl.out; omega
     have co := keep_cell hb (hc3.out i hil)
     have cb := keep_cell hb hcc3.out
     rw [Nat.zero_add] at co
     have hkn := hOlt.out i hil
     have hst : numS l gap (O.take (i + 1)) = numStep l gap ⟨cnt, e, f⟩ O[i] := by
      rw [List.take_succ_eq_append_getElem hil, numS_snoc, hN.out]
     obtain ⟨k, hk⟩ : ∃ k, O[i] = k := ⟨_, rfl⟩
     rw [hk] at hkn hst co
     obtain ⟨q0, q1, q2, q3⟩ := (hl0.out.below (bel_step hB3.out hb)).xy hn.out hkn
     obtain ⟨k1, k2, k3, k4, k5, k6, k7, k8⟩ := okB_b (hok2.out k hkn)
     unfold numStep at hst
     unfold intV at co
     generalize l.getD k default = q at *
     obtain ⟨x, y, bw, bh⟩ := q
     dsimp only at q0 q1 q2 q3 k1 k2 k3 k4 k5 k6 k7 k8 hst
     have hkk : (k : Int) < (n : Int) := by omega
     have w1' : IntKind.i64.wrap (x + bw) = x + bw := by rw [IntKind.wrap_i64]; omega
     have w2' : IntKind.i64.wrap (e + gap) = e + gap := by rw [IntKind.wrap_i64]; omega
     have w3' : IntKind.i64.wrap ((cnt : Int) + 1) = ((cnt + 1 : Nat) : Int) := by rw [IntKind.wrap_i64]; omega
     have w5' : IntKind.i64.wrap (((cnt + 1 : Nat) : Int) - 1) = (cnt : Int) := by rw [IntKind.wrap_i64]; omega
     clear hk hN q1 q3
     by_cases hc0 : cnt = 0 ∨ e + gap ≤ x
     ·rw [if_pos hc0] at hst
      have hmx : max (x + bw) (x + bw) = x + bw := by omega
      obtain ⟨c1, hc1⟩ : ∃ z, cnt + 1 = z := ⟨_, rfl⟩
      rw [hc1] at hst w3' w5'
      have hb1 : -8192 ≤ x + bw ∧ x + bw ≤ 8192 := by omega
      have hc2' : c1 ≤ i + 1 := by omega
      replace hst := hid hst
      replace hc1 := hid hc1
      rcases Nat.eq_zero_or_pos cnt with hz | hz
      ·subst hz
       obtain rfl : c1 = 1 := by have := hc1.out; omega
       clear hc0 k1 k2 k3 k4 k5 k6 k7 k8
       go_upto_region 10 with fail
       go_quiet (fail)
       have hv : Go.RowKit.Below wr.heap.size wr (wr.drewN nq) := below_drewN (Go.RowKit.Below.refl _ _) _
       generalize hvq : wr.drewN nq = v1 at hv ⊢
       clear hvq
       have co := keep_cell hv co
       have cb := keep_cell hv cb
       have q0 := keep_cell hv q0
       have q2 := keep_cell hv q2
       have hT := rowK hT hv
       have hb := bel_step hb hv
       clear hv nq
       go_upto_region 11 with fail
       go_quiet (fail)
       have hv : Go.RowKit.Below v1.heap.size v1 (v1.drewN nq) := below_drewN (Go.RowKit.Below.refl _ _) _
       generalize hvq : v1.drewN nq = v2 at hv ⊢
       clear hvq
       have hT2 := rowK hT hv
       have hb2 := bel_step hb hv
       have fz := hT2.frozen
       have ct := hT2.cell hkn
       have ltg := hT2.lt
       have hr5 := hid ((hT2.set k (.int .i64 (((0 : Nat) : Int)))).congr (g := fun j => intV (updF f k 0 j)) (fun j _ => by unfold updF intV; split <;> rfl))
       have hb5 := hid (below_set hb2 (Nat.le_refl _) k (.int .i64 ((0 : Nat) : Int)))
       clear hT hb hv hT2 hb2
       go_wp2
       go_roundw
       case rel => exact ⟨i + 1, ⟨1, x + bw, updF f k 0⟩, by go_num, by omega, hst, rfl, rfl, hc2', hb1.1, hb1.2, hr5.out, hb5.out⟩
       case measure => simp [intOf]; omega
      ·have hce : ((cnt : Int) == 0) = false := beq_eq_false_iff_ne.2 (by omega)
       have hcx : e + gap ≤ x := by omega
       clear hc0 k1 k2 k3 k4 k5 k6 k7 k8
       go_upto_region 10 with fail
       go_quiet (fail)
       have hv : Go.RowKit.Below wr.heap.size wr (wr.drewN nq) := below_drewN (Go.RowKit.Below.refl _ _) _
       generalize hvq : wr.drewN nq = v1 at hv ⊢
       clear hvq
       have co := keep_cell hv co
       have cb := keep_cell hv cb
       have q0 := keep_cell hv q0
       have q2 := keep_cell hv q2
       have hT := rowK hT hv
       have hb := bel_step hb hv
       clear hv nq
       go_upto_region 11 with fail
       go_quiet (fail)
       have hv : Go.RowKit.Below v1.heap.size v1 (v1.drewN nq) := below_drewN (Go.RowKit.Below.refl _ _) _
       generalize hvq : v1.drewN nq = v2 at hv ⊢
       clear hvq
       have hT2 := rowK hT hv
       have hb2 := bel_step hb hv
       have fz := hT2.frozen
       have ct := hT2.cell hkn
       have ltg := hT2.lt
       have hr5 := hid ((hT2.set k (.int .i64 (((cnt : Nat) : Int)))).congr (g := fun j => intV (updF f k cnt j)) (fun j _ => by unfold updF intV; split <;> rfl))
       have hb5 := hid (below_set hb2 (Nat.le_refl _) k (.int .i64 ((cnt : Nat) : Int)))
       clear hT hb hv hT2 hb2
       go_wp2
       go_roundw
       case rel => exact ⟨i + 1, ⟨c1, x + bw, updF f k cnt⟩, by go_num, by omega, hst, rfl, rfl, hc2', hb1.1, hb1.2, hr5.out, hb5.out⟩
       case measure => simp [intOf]; omega
     ·rw [if_neg hc0] at hst
      obtain ⟨c1, hc1⟩ : ∃ z, z + 1 = cnt := ⟨cnt - 1, by omega⟩
      rw [show cnt - 1 = c1 by omega] at hst
      have w4' : IntKind.i64.wrap ((cnt : Int) - 1) = (c1 : Int) := by rw [IntKind.wrap_i64]; omega
      have hce : ((cnt : Int) == 0) = false := beq_eq_false_iff_ne.2 (by omega)
      have hcx : ¬ e + gap ≤ x := by omega
      obtain ⟨em, hem⟩ : ∃ z, max e (x + bw) = z := ⟨_, rfl⟩
      have hb1 : -8192 ≤ em ∧ em ≤ 8192 := by omega
      rw [hem] at hst
      replace hst := hid hst
      replace hc1 := hid hc1
      clear hc0 k1 k2 k3 k4 k5 k6 k7 k8 w3' w5'
      obtain ⟨v1, hv1⟩ : ∃ v, v = wr := ⟨_, rfl⟩
      subst hv1
      go_upto_region 11 with fail
      go_quiet (fail)
      have hv : Go.RowKit.Below v1.heap.size v1 (v1.drewN nq) := below_drewN (Go.RowKit.Below.refl _ _) _
      generalize hvq : v1.drewN nq = v2 at hv ⊢
      clear hvq
      have hT2 := rowK hT hv
      have hb2 := bel_step hb hv
      have fz := hT2.frozen
      have ct := hT2.cell hkn
      have ltg := hT2.lt
      have hr5 := hid ((hT2.set k (.int .i64 (((c1 : Nat) : Int)))).congr (g := fun j => intV (updF f k c1 j)) (fun j _ => by unfold updF intV; split <;> rfl))
      have hb5 := hid (below_set hb2 (Nat.le_refl _) k (.int .i64 ((c1 : Nat) : Int)))
      clear hT hb hv hT2 hb2
      go_wp2
      go_roundw
      case rel => exact ⟨i + 1, ⟨cnt, em, updF f k c1⟩, by go_num, by omega, hst, rfl, rfl, (show cnt ≤ i + 1 by omega), hb1.1, hb1.2, hr5.out, hb5.out⟩
      case measure => simp [intOf]; omega
    ·obtain rfl : i = n := by omega
     have hii : ¬ (i : Int) < (i : Int) := by omega
     have hNe : numS l gap O = ⟨cnt, e, f⟩ := by rw [← hN.out, List.take_of_length_le (by have := hOl.out; omega)]
     have hres := hid (show RetNum l gap i w (.returned (.tuple #[.slice (some ⟨w3.heap.size, 0, none⟩) i i, .int .i64 (cnt : Int)])) wr from
      ⟨O, w3.heap.size, hn.out ▸ hPr.out, hS.out, by rw [hNe], hB3.out.size, by rw [hNe]; exact hT, bel_step hB3.out hb⟩)
     clear hN hT hb hNe
     go_wp2
     refine bodyPost_ret (v := .tuple #[.slice (some ⟨w3.heap.size, 0, none⟩) i i, .int .i64 (cnt : Int)]) ?_ rfl ?_
     ·simp [results, Try.results31, go_sem]
     ·exact hres.out
end Go.Proofs.Ytjdgjhaggpahkaa
