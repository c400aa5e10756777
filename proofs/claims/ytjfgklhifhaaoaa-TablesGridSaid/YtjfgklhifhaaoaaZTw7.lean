/- Tables: Without of the package. Conditions: none. -/
import Derived.Test.YtjfgklhifhaaoaaZTw6
set_option linter.unusedVariables false
set_option linter.unusedSimpArgs false
namespace Go.Proofs.Ytjfgklhifhaaoaa
open Go.RowKit
/-- a row of pixels that the call owns, as a block of pixels -/
theorem own_px {w : World} {base : Nat} {v : Value} {d : List Bool} (h : BoK.Own w base v d) (h0 : 0 < d.length) : ∃ g c, v = .slice (some ⟨g, 0, none⟩) d.length c ∧ base ≤ g ∧ PxA w g d ∧ d.length ≤ c ∧ c ≤ 9223372036854775807 := by
 rcases h.2 with ⟨_, h1⟩ | ⟨g, cap, cur, rfl, hbg, hg, hnc, hmx, hcs, htake⟩
 ·omega
 ·refine ⟨g, cap, rfl, hbg, ⟨fun j u hu => ?_, (Array.getElem?_eq_some_iff.1 hg).1, fun i => ?_⟩, hnc, by unfold maxLen at hmx; omega⟩
  ·rw [← BoK_flat] at hu
   have := World.ownsRow.cells h (g := g) rfl j u hu
   rw [add_plain] at this
   exact this
  ·simp [World.frozen?, hg]
theorem witE_1 {m : Bm} {l : List Ru} (h : bmB m = false) : witE m l = (noB, 1) := by unfold witE; rw [h]; rfl
theorem witE_4 {m : Bm} {l : List Ru} (h : bmB m = true) (h1 : 4096 < l.length) : witE m l = (noB, 4) := by unfold witE; rw [h, if_pos rfl, if_pos h1]
theorem witE_3 {m : Bm} {l : List Ru} (h : bmB m = true) (h1 : ¬ 4096 < l.length) {i : Nat} (hi : i < l.length) (h2 : okR l[i] = false) : witE m l = (noB, 3) := by
 unfold witE
 rw [h, if_pos rfl, if_neg h1, if_neg]
 rw [List.all_eq_true]
 exact fun hh => by rw [hh _ (List.getElem_mem hi)] at h2; cases h2
theorem witE_0 {m : Bm} {l : List Ru} (h : bmB m = true) (h1 : ¬ 4096 < l.length) (h2 : ∀ i (hi : i < l.length), okR l[i] = true) : witE m l = (⟨m.w, m.h, wipeL m.w m.h m.d l⟩, 0) := by
 unfold witE
 rw [h, if_pos rfl, if_neg h1, if_pos]
 rw [List.all_eq_true]
 intro x hx
 obtain ⟨j, hj, e⟩ := List.getElem_of_mem hx
 rw [← e]; exact h2 j hj
/-- the pixels without the first i lines -/
def wipK (W H : Int) (d : List Bool) (l : List Ru) (i : Nat) : List Bool := wipeL W H d (l.take i)
theorem wipK_succ {W H : Int} {d : List Bool} {l : List Ru} {i : Nat} (h : i < l.length) : wipK W H d l (i + 1) = pntB W H (wipK W H d l i) (boxR l[i]) false := by
 unfold wipK wipeL
 rw [List.take_succ_eq_append_getElem h, List.foldl_append]; rfl
theorem boxR_ok {r : Ru} (h : okR r = true) : ((0 ≤ (boxR r).x ∧ (boxR r).x ≤ 1000000) ∧ (0 ≤ (boxR r).y ∧ (boxR r).y ≤ 1000000)) ∧ ((-1000000 ≤ (boxR r).w ∧ (boxR r).w ≤ 1000000) ∧ (-1000000 ≤ (boxR r).h ∧ (boxR r).h ≤ 1000000)) := by
 have := okR_iff.1 h
 unfold boxR
 split <;> dsimp only <;> omega
theorem PxR.goes {w w' v : World} {g : Nat} {d : List Bool} (h : PxR w g d w') (hb : Below w'.heap.size w' v) : PxR w g d v := ⟨h.gb.trans (gb_below hb), h.a.below hb⟩
set_option maxRecDepth 100000 in
set_option maxHeartbeats 8000000 in
theorem TWit_g (m : Bm) (A : Option Addr) (c : Nat) (l : List Ru) (B : Option Addr) (k : Nat) {w : World} (hm : BoK.Rd w A c m.d) (hl : RuK.Rd w B k l) :
  Calls Try.prog 10 #[.agg #[.int .i64 m.w, .int .i64 m.h, .slice A m.d.length c], .slice B l.length k] w (RetBE w (witE m l)) := by
 obtain ⟨n, hn⟩ : ∃ n, l.length = n := ⟨_, rfl⟩
 obtain ⟨E, hE⟩ : ∃ q, witE m l = q := ⟨_, rfl⟩
 have e1 := hid fun (h : bmB m = false) => hE.symm.trans (witE_1 h)
 have e4 := hid fun (h : bmB m = true) (h1 : 4096 < n) => hE.symm.trans (witE_4 h (by omega))
 have e3 := hid fun (h : bmB m = true) (h1 : ¬ 4096 < n) (i : Nat) (hi : i < l.length) (h2 : okR l[i] = false) => hE.symm.trans (witE_3 h (by omega) hi h2)
 have e0 := hid fun (h : bmB m = true) (h1 : ¬ 4096 < n) (h2 : ∀ i (hi : i < l.length), okR l[i] = true) => hE.symm.trans (witE_0 h (by omega) h2)
 have hM := hid fun (j : Nat) (hj : j < n) (W : World) (hb : Below w.heap.size w W) => (hl.below hb).at_ (j := j) (by omega)
 have cc := Nat.le_trans hl.cap hl.max
 have cd := Nat.le_trans hm.cap hm.max
 have HC := hid fun (W : World) => RCheck_g m A c W
 have hmr := hid fun (W : World) (hb : Below w.heap.size w W) => hm.below hb
 have hpos := hid fun (h : bmB m = true) => (show 0 < m.d.length ∧ m.d.length ≤ 4194304 from by
  obtain ⟨⟨a1, a2, a3, a4, a5⟩, a6⟩ := bmB_iff.1 h
  have : 1 * 1 ≤ m.w * m.h := Int.mul_le_mul a1 a3 (by omega) (by omega)
  omega)
 have hck : Hid (ckE m = if bmB m then 0 else 1) := rfl
 have hVal := hid fun (r : Ru) (W : World) => TValid_g r W
 rw [hE]
 rw [hn] at cc ⊢
 replace hn := hid hn
 clear hl hE hm
 go_enter Try.func10, Try.ntmps10
 go_upto_region 1 with fail
 refine enterR2 (P := fun u => Code.wp _ _ _ _ u) (c0 := [.int .i64 m.w, .int .i64 m.h, .slice A m.d.length c]) (c1 := [.int .i64 0, .int .i64 0, .slice none 0 0]) ?_
 intro u HB r0 r1 zn0 zn1 hsz
 clear zn0 hsz
 have c0 : (u).cell? ⟨w.heap.size, 0, none⟩ = some (.int .i64 m.w) := r0 0 _ rfl
 have c1 : (u).cell? ⟨w.heap.size, 1, none⟩ = some (.int .i64 m.h) := r0 1 _ rfl
 have c2 : (u).cell? ⟨w.heap.size, 2, none⟩ = some (.slice A m.d.length c) := r0 2 _ rfl
 clear r0
 obtain ⟨K, hK⟩ : ∃ K, ckE m = K := ⟨_, rfl⟩
 rw [hK] at hck
 have HC' := hid (show Calls Try.prog 19 #[.agg #[.int .i64 m.w, .int .i64 m.h, .slice A m.d.length c]] u (RetI u K) from by rw [← hK]; exact HC.out u)
 clear HC hK
 go_wp2_with fail
 refine HC'.out.mono ?_
 rintro e v ⟨rfl, hv⟩
 clear HC'
 have c0 := keep_cell hv c0
 have c1 := keep_cell hv c1
 have c2 := keep_cell hv c2
 replace r1 := rng_below r1 hv
 replace zn1 := zn1.below hv
 replace HB := bel_step HB hv
 cases hb : bmB m
 ·obtain rfl : K = 1 := by rw [hck.out, hb]; rfl
  obtain rfl := e1.out hb
  clear e0 e1 e3 e4 hM hmr hpos hck hVal hb hv c0 c1 c2
  have k0 : (v).cell? ⟨w.heap.size + 1, 0, none⟩ = some (.int .i64 0) := r1 0 _ rfl
  have k1 : (v).cell? ⟨w.heap.size + 1, 1, none⟩ = some (.int .i64 0) := r1 1 _ rfl
  have k2 : (v).cell? ⟨w.heap.size + 1, 2, none⟩ = some (.slice none 0 0) := r1 2 _ rfl
  have ltk := cell_lt k0
  have fk := zn1.fr
  have HBf := hid (below_set (below_set (below_set HB (show w.heap.size ≤ w.heap.size + 1 by omega) 0 (.int .i64 0)) (show w.heap.size ≤ w.heap.size + 1 by omega) 1 (.int .i64 0)) (show w.heap.size ≤ w.heap.size + 1 by omega) 2 (.slice none 0 0))
  clear r1 zn1 HB
  go_wp2
  refine bodyPost_ret (v := .tuple #[.agg #[.int .i64 0, .int .i64 0, .slice none 0 0], .int .i64 (1)]) ?_ rfl ?_
  ·simp [results, Try.results10, go_sem, k0, k1, k2]
  ·exact ⟨none, 0, rfl, Knd.Rd.nil _, HBf.out⟩
 ·obtain rfl : K = 0 := by rw [hck.out, hb]; rfl
  replace e4 := hid (e4.out hb)
  replace e3 := hid (e3.out hb)
  replace e0 := hid (e0.out hb)
  obtain ⟨p0, p1⟩ := hpos.out hb
  have hsz := hid (bmB_iff.1 hb).1
  have hsd := hid (bmB_iff.1 hb).2
  clear e1 hpos hck hv
  by_cases g1 : 4096 < n
  ·have gi : (4096 : Int) < (n : Int) := by omega
   obtain rfl := e4.out g1
   clear e0 e3 e4 hM hmr hVal hb c0 c1 c2 p0 p1
   have k0 : (v).cell? ⟨w.heap.size + 1, 0, none⟩ = some (.int .i64 0) := r1 0 _ rfl
   have k1 : (v).cell? ⟨w.heap.size + 1, 1, none⟩ = some (.int .i64 0) := r1 1 _ rfl
   have k2 : (v).cell? ⟨w.heap.size + 1, 2, none⟩ = some (.slice none 0 0) := r1 2 _ rfl
   have ltk := cell_lt k0
   have fk := zn1.fr
   have HBf := hid (below_set (below_set (below_set HB (show w.heap.size ≤ w.heap.size + 1 by omega) 0 (.int .i64 0)) (show w.heap.size ≤ w.heap.size + 1 by omega) 1 (.int .i64 0)) (show w.heap.size ≤ w.heap.size + 1 by omega) 2 (.slice none 0 0))
   clear r1 zn1 HB
   go_wp2
   refine bodyPost_ret (v := .tuple #[.agg #[.int .i64 0, .int .i64 0, .slice none 0 0], .int .i64 (4)]) ?_ rfl ?_
   ·simp [results, Try.results10, go_sem, k0, k1, k2]
   ·exact ⟨none, 0, rfl, Knd.Rd.nil _, HBf.out⟩
  ·have gi : ¬ (4096 : Int) < (n : Int) := by omega
   replace e3 := hid (e3.out g1)
   replace e0 := hid (e0.out g1)
   clear e4
   have hKp := hid fun (W : World) (hb : Below v.heap.size v W) => (show (W.cell? ⟨w.heap.size, 0, none⟩ = some (.int .i64 m.w) ∧ W.cell? ⟨w.heap.size, 1, none⟩ = some (.int .i64 m.h) ∧ W.cell? ⟨w.heap.size, 2, none⟩ = some (.slice A m.d.length c)) ∧ (W.rangeAt (w.heap.size + 1) 0 [.int .i64 0, .int .i64 0, .slice none 0 0] ∧ Zn W (w.heap.size + 1)) ∧ Below w.heap.size w W from
    ⟨⟨keep_cell hb c0, keep_cell hb c1, keep_cell hb c2⟩, ⟨rng_below r1 hb, zn1.below hb⟩, bel_step HB hb⟩)
   clear c0 c1 c2 r1 zn1 HB
   go_wp2
   go_loopw [22] (fun s22 wr => ∃ i : Nat, s22 = .int .i64 i ∧ i ≤ n ∧ Hid (∀ j (h1 : j < l.length), j < i → okR l[j] = true) ∧ Below v.heap.size v wr) (fun s22 _ => n - (intOf s22).toNat)
   case atStart => exact ⟨0, rfl, by omega, fun j _ h => by omega, Below.refl _ _⟩
   case round =>
    obtain ⟨i, rfl, hi, hA, hbu⟩ := hrel
    obtain ⟨⟨c0, c1, c2⟩, ⟨r1, zn1⟩, HB⟩ := hKp.out wr hbu
    by_cases hin : i < n
    ·have hii : (i : Int) < (n : Int) := by omega
     have hil : i < l.length := by have := hn.out; omega
     obtain ⟨b, o, hA3, hc⟩ := hM.out i hin wr HB
     have f0 : wr.cell? ⟨b, (o + i * 5), none⟩ = some (.bool l[i].v) := hc 0 _ rfl
     have f1 : wr.cell? ⟨b, (o + i * 5) + 1, none⟩ = some (.int .i64 l[i].a) := hc 1 _ rfl
     have f2 : wr.cell? ⟨b, (o + i * 5) + 2, none⟩ = some (.int .i64 l[i].t) := hc 2 _ rfl
     have f3 : wr.cell? ⟨b, (o + i * 5) + 3, none⟩ = some (.int .i64 l[i].f) := hc 3 _ rfl
     have f4 : wr.cell? ⟨b, (o + i * 5) + 4, none⟩ = some (.int .i64 l[i].o) := hc 4 _ rfl
     clear hc
     subst hA3
     obtain ⟨t, ht⟩ : ∃ t, okR l[i] = t := ⟨_, rfl⟩
     have H1 := hid fun (W : World) => (show Calls Try.prog 28 #[.agg #[.bool l[i].v, .int .i64 l[i].a, .int .i64 l[i].t, .int .i64 l[i].f, .int .i64 l[i].o]] W (RetB W t) from by rw [← ht]; exact hVal.out l[i] W)
     have hb1 := hid fun (h : t = false) => e3.out i hil (ht.trans h)
     have hb2 := hid fun (h : t = true) (j : Nat) (h1 : j < l.length) (hj : j < i + 1) => (show okR l[j] = true from by
      by_cases e : j = i
      ·subst e; exact ht.trans h
      ·exact hA.out j h1 (by omega))
     clear hM hA hmr e0 hVal ht c0 c1 c2 e3
     generalize l[i] = q at *
     obtain ⟨qv, qa, qt, qf, qo⟩ := q
     dsimp only at f0 f1 f2 f3 f4 H1
     go_upto_region 8 with fail
     refine enterR (P := fun u => Code.wp _ _ _ _ u) (c := [.bool qv, .int .i64 qa, .int .i64 qt, .int .i64 qf, .int .i64 qo]) ?_
     intro x hbx s0 zx hsx
     clear hsx zx f0 f1 f2 f3 f4
     have f0 : (x).cell? ⟨wr.heap.size, 0, none⟩ = some (.bool qv) := s0 0 _ rfl
     have f1 : (x).cell? ⟨wr.heap.size, 1, none⟩ = some (.int .i64 qa) := s0 1 _ rfl
     have f2 : (x).cell? ⟨wr.heap.size, 2, none⟩ = some (.int .i64 qt) := s0 2 _ rfl
     have f3 : (x).cell? ⟨wr.heap.size, 3, none⟩ = some (.int .i64 qf) := s0 3 _ rfl
     have f4 : (x).cell? ⟨wr.heap.size, 4, none⟩ = some (.int .i64 qo) := s0 4 _ rfl
     clear s0
     replace hbu := bel_step hbu hbx
     replace r1 := rng_below r1 hbx
     replace zn1 := zn1.below hbx
     replace HB := bel_step HB hbx
     clear hbx
     go_wp2_with fail
     refine (H1.out _).mono ?_
     rintro e y ⟨rfl, hy⟩
     replace hbu := bel_step hbu hy
     replace r1 := rng_below r1 hy
     replace zn1 := zn1.below hy
     replace HB := bel_step HB hy
     clear hy H1 f0 f1 f2 f3 f4
     cases t
     ·obtain rfl := hb1.out (by first | rfl | trivial)
      clear hb1 hb2 hKp hbu
      have k0 : (y).cell? ⟨w.heap.size + 1, 0, none⟩ = some (.int .i64 0) := r1 0 _ rfl
      have k1 : (y).cell? ⟨w.heap.size + 1, 1, none⟩ = some (.int .i64 0) := r1 1 _ rfl
      have k2 : (y).cell? ⟨w.heap.size + 1, 2, none⟩ = some (.slice none 0 0) := r1 2 _ rfl
      have ltk := cell_lt k0
      have fk := zn1.fr
      have HBf := hid (below_set (below_set (below_set HB (show w.heap.size ≤ w.heap.size + 1 by omega) 0 (.int .i64 0)) (show w.heap.size ≤ w.heap.size + 1 by omega) 1 (.int .i64 0)) (show w.heap.size ≤ w.heap.size + 1 by omega) 2 (.slice none 0 0))
      clear r1 zn1 HB
      go_wp2
      refine bodyPost_ret (v := .tuple #[.agg #[.int .i64 0, .int .i64 0, .slice none 0 0], .int .i64 (3)]) ?_ rfl ?_
      ·simp [results, Try.results10, go_sem, k0, k1, k2]
      ·exact ⟨none, 0, rfl, Knd.Rd.nil _, HBf.out⟩
     ·have hA2 := hid (hb2.out (by first | rfl | trivial))
      clear hb1 hb2 r1 zn1 HB
      go_wp2
      go_roundw
      case rel => exact ⟨i + 1, by go_num, by omega, hA2, hbu⟩
      case measure => simp [intOf]; omega
    ·obtain rfl : n = i := by omega
     obtain rfl := e0.out (fun j h1 => hA.out j h1 (by have := hn.out; omega))
     have hii : ¬ (n : Int) < (n : Int) := by omega
     have hAll := hid fun j (h1 : j < l.length) => hA.out j h1 (by have := hn.out; omega)
     clear e0 e3 hA hVal hKp
     go_upto_region 11 with fail
     obtain ⟨b0, o0, hA0, hb0, hcs⟩ := (hmr.out wr HB).rd p0
     have hcs2 := hid fun (W : World) (hb : Below wr.heap.size wr W) => (fun (j : Nat) (hj : j < m.d.length) => (hcs j hj).keep hb)
     subst hA0
     have ltm := cell_lt c2
     go_cut [8] (fun s8 wx => ∃ gb g q, s8 = .pointer (some ⟨gb, 0, none⟩) ∧ PxA wx g m.d ∧ (wx.rangeAt gb 0 [.int .i64 m.w, .int .i64 m.h, .slice (some ⟨g, 0, none⟩) m.d.length q] ∧ Zn wx gb) ∧ (wr.heap.size ≤ gb ∧ wr.heap.size ≤ g ∧ gb ≠ g) ∧ (m.d.length ≤ q ∧ q ≤ 9223372036854775807) ∧ Below wr.heap.size wr wx)
     case first =>
      refine Ords.start (x := 9) (S := fun w' => w'.cell? ⟨w.heap.size, 0, none⟩ = some (.int .i64 m.w) ∧ w'.cell? ⟨w.heap.size, 1, none⟩ = some (.int .i64 m.h) ∧ w'.cell? ⟨w.heap.size, 2, none⟩ = some (.slice (some ⟨b0, o0, none⟩) m.d.length c)) (by kernel_rfl) ⟨c0, c1, c2⟩ (fun hHeld => ?_)
      refine' Ords.take (i := 0) ?_ ?_ ?_ ?_ ?_ ?_ ?_ ?_ ?_
      rotate_left 2
      ·(simp only [List.getElem?_toArray, List.getElem?_cons_succ, List.getElem?_cons_zero]; rfl)
      ·kernel_rfl
      ·kernel_rfl
      ·kernel_rfl
      ·kernel_rfl
      ·exact fun _ _ _ h => h
      ·(refine Or.inl ⟨by rfl, ?_⟩; intro w_ hSw_; (try dsimp only at hSw_); go_simp; (try with_reducible rfl))
      ·assumption
      (try simp only [Act.put, Lp0, Lp1, Lp2])
      refine' Ords.take (i := 1) ?_ ?_ ?_ ?_ ?_ ?_ ?_ ?_ ?_
      rotate_left 2
      ·(simp only [List.getElem?_toArray, List.getElem?_cons_succ, List.getElem?_cons_zero]; rfl)
      ·kernel_rfl
      ·kernel_rfl
      ·kernel_rfl
      ·kernel_rfl
      ·exact fun _ _ _ h => h
      ·(refine Or.inl ⟨by rfl, ?_⟩; intro w_ hSw_; (try dsimp only at hSw_); go_simp; (try with_reducible rfl))
      ·assumption
      (try simp only [Act.put, Lp0, Lp1, Lp2])
      refine' Ords.take (i := 2) ?_ ?_ ?_ ?_ ?_ ?_ ?_ ?_ ?_
      rotate_left 2
      ·(simp only [List.getElem?_toArray, List.getElem?_cons_succ, List.getElem?_cons_zero]; rfl)
      ·kernel_rfl
      ·kernel_rfl
      ·kernel_rfl
      ·kernel_rfl
      ·exact fun _ _ _ h => h
      ·(refine Or.inl ⟨by rfl, ?_⟩; intro w_ hSw_; (try dsimp only at hSw_); go_simp; (try with_reducible rfl))
      ·assumption
      (try simp only [Act.put, Lp0, Lp1, Lp2])
      refine' Ords.take (i := 3) ?_ ?_ ?_ ?_ ?_ ?_ ?_ ?_ ?_
      rotate_left 2
      ·(simp only [List.getElem?_toArray, List.getElem?_cons_succ, List.getElem?_cons_zero]; rfl)
      ·kernel_rfl
      ·kernel_rfl
      ·kernel_rfl
      ·kernel_rfl
      ·exact fun _ _ _ h => h
      ·(refine Or.inl ⟨by rfl, ?_⟩; intro w_ hSw_; (try dsimp only at hSw_); go_simp; (try with_reducible rfl))
      ·assumption
      (try simp only [Act.put, Lp0, Lp1, Lp2])
      refine' Ords.take (i := 4) ?_ ?_ ?_ ?_ ?_ ?_ ?_ ?_ ?_
      rotate_left 2
      ·(simp only [List.getElem?_toArray, List.getElem?_cons_succ, List.getElem?_cons_zero]; rfl)
      ·kernel_rfl
      ·kernel_rfl
      ·kernel_rfl
      ·kernel_rfl
      ·exact fun _ _ _ h => h
      ·(refine Or.inl ⟨by rfl, ?_⟩; intro w_ hSw_; (try dsimp only at hSw_); go_simp; (try with_reducible rfl))
      ·assumption
      (try simp only [Act.put, Lp0, Lp1, Lp2])
      refine' Ords.take (i := 5) ?_ ?_ ?_ ?_ ?_ ?_ ?_ ?_ ?_
      rotate_left 2
      ·(simp only [List.getElem?_toArray, List.getElem?_cons_succ, List.getElem?_cons_zero]; rfl)
      ·kernel_rfl
      ·kernel_rfl
      ·kernel_rfl
      ·kernel_rfl
      ·exact fun _ _ _ h => h
      ·(refine Or.inl ⟨by rfl, ?_⟩; intro w_ hSw_; (try dsimp only at hSw_); go_simp; (try with_reducible rfl))
      ·assumption
      (try simp only [Act.put, Lp0, Lp1, Lp2])
      have hdb : Below wr.heap.size wr wr.drew := (Below.refl _ _).drew
      have hcs3 := hid (hcs2.out _ hdb)
      generalize wr.drew = wd at hdb hHeld hcs3 ⊢
      have hzd := hdb.size
      obtain ⟨c0, c1, c2⟩ := hHeld
      have ltd := cell_lt c2
      refine' Ords.fork (i := 6) (j := 8) (by kernel_rfl) (by simp only [List.getElem?_toArray, List.getElem?_cons_succ, List.getElem?_cons_zero]; rfl) (by simp only [List.getElem?_toArray, List.getElem?_cons_succ, List.getElem?_cons_zero]; rfl) (fun K hK => ?_) (fun K hK => ?_)
      ·refine Knd.step_apps BoKo rfl (.const (.slice none 0 0)) (.tmp 36) rfl wd.heap.size (.slice none 0 0) [] m.d b0 o0 c rfl (Knd.Own.nil _ _) rfl hcs3.out (by simp) (by omega) (Nat.le_refl _) ?_
       intro v' w' hO hg hat
       rw [List.nil_append] at hO
       obtain ⟨g, q, rfl, hgb, hpx, hq1, hq2⟩ := own_px hO p0
       have hbw : Below wd.heap.size wd w' := Below.grown (Below.refl _ _) hg (Nat.le_refl _) (fun k e => by cases e)
       have d0 := keep_cell hbw c0
       have d1 := keep_cell hbw c1
       have d2 := keep_cell hbw c2
       refine hK.out _ _ ⟨d0, d1, d2⟩ (fun hHeld => ?_)
       clear hK K
       (try simp only [Act.put, Lp0, Lp1, Lp2])
       refine' Ords.take (i := 7) ?_ ?_ ?_ ?_ ?_ ?_ ?_ ?_ ?_
       rotate_left 2
       ·(simp only [List.getElem?_toArray, List.getElem?_cons_succ, List.getElem?_cons_zero]; rfl)
       ·kernel_rfl
       ·kernel_rfl
       ·kernel_rfl
       ·kernel_rfl
       ·exact fun _ _ _ h => h
       ·(refine Or.inl ⟨by rfl, ?_⟩; intro w_ hSw_; (try dsimp only at hSw_); go_simp; (try with_reducible rfl))
       ·assumption
       (try simp only [Act.put, Lp0, Lp1, Lp2])
       refine' Ords.step (i := 8) (by kernel_rfl) (by simp only [List.getElem?_toArray, List.getElem?_cons_succ, List.getElem?_cons_zero]; rfl) (fun K hK => ?_)
       go_simp
       skip
       (try go_wp2_with fail)
       refine hK.out _ _ ?_ (fun hHeld => ?_)
       ·exact ⟨keep_alloc d0, keep_alloc d1, keep_alloc d2⟩
       clear hK K
       (try simp only [Act.put, Lp0, Lp1, Lp2])
       refine' Ords.last (by kernel_rfl) (by simp only [List.getElem?_toArray, List.getElem?_cons_succ, List.getElem?_cons_zero]; rfl) (by kernel_rfl) (fun K hK => ?_)
       go_simp
       (try go_wp2_with fail)
       refine hK.out _ _ ?_
       clear hK K
       (try simp only [Act.put, Lp0, Lp1, Lp2])
       have hx := rng_alloc (w := w') (cs := [.int .i64 m.w, .int .i64 m.h, .slice (some ⟨g, 0, none⟩) m.d.length q]) (t := 27)
       have hxz := Zn.new_ (w := w') (cs := ([.int .i64 m.w, .int .i64 m.h, .slice (some ⟨g, 0, none⟩) m.d.length q] : List Value).toArray) (t := 27)
       have hxb : Below w'.heap.size w' (w'.alloc (.cells #[.int .i64 m.w, .int .i64 m.h, .slice (some ⟨g, 0, none⟩) m.d.length q] 27)) := (Below.refl _ _).alloc (Nat.le_refl _) _
       have hpx2 := hpx.below hxb
       have hgl := hpx.z.lt
       have hs1 := hbw.size
       have hfin := hid (And.intro hpx2 (And.intro (And.intro hx hxz) (And.intro (show wr.heap.size ≤ w'.heap.size ∧ wr.heap.size ≤ g ∧ w'.heap.size ≠ g from ⟨by omega, by omega, by omega⟩) (And.intro (And.intro hq1 hq2) (bel_step hdb (bel_step hbw hxb))))))
       clear hx hxz hxb hpx2 hpx hbw hdb hO hg hat
       go_wp2_with fail
       go_meet
       go_light
       exact ⟨_, g, q, rfl, hfin.out⟩
      ·go_simp
       (try go_wp2_with fail)
       refine hK.out _ _ ⟨keep_alloc c0, keep_alloc c1, keep_alloc c2⟩ (fun hHeld => ?_)
       clear hK K
       (try simp only [Act.put, Lp0, Lp1, Lp2])
       have hab : Below wd.heap.size wd (wd.alloc (.cells #[.int .i64 0, .int .i64 0, .slice none 0 0] 27)) := (Below.refl _ _).alloc (Nat.le_refl _) _
       have hx0 := rng_alloc (w := wd) (cs := [.int .i64 0, .int .i64 0, .slice none 0 0]) (t := 27)
       have hx1 := Zn.new_ (w := wd) (cs := ([.int .i64 0, .int .i64 0, .slice none 0 0] : List Value).toArray) (t := 27)
       have hsa : (wd.alloc (.cells #[.int .i64 0, .int .i64 0, .slice none 0 0] 27)).heap.size = wd.heap.size + 1 := sA
       obtain ⟨wa, hwa⟩ : ∃ x, wd.alloc (.cells #[.int .i64 0, .int .i64 0, .slice none 0 0] 27) = x := ⟨_, rfl⟩
       have hx0 : wa.rangeAt wd.heap.size 0 [.int .i64 0, .int .i64 0, .slice none 0 0] := by rw [← hwa]; exact hx0
       have hx1 : Zn wa wd.heap.size := by rw [← hwa]; exact hx1
       rw [hwa] at hab hsa hHeld ⊢
       obtain ⟨c0, c1, c2⟩ := hHeld
       have hcs4 := hid fun j hj => Knd.At.keep hab (hcs3.out j hj)
       obtain ⟨gb, hgb0⟩ : ∃ x, wd.heap.size = x := ⟨_, rfl⟩
       rw [hgb0] at hx0 hx1 hsa hzd ltd ⊢
       refine' Ords.step (i := 6) (by kernel_rfl) (by simp only [List.getElem?_toArray, List.getElem?_cons_succ, List.getElem?_cons_zero]; rfl) (fun K hK => ?_)
       refine Knd.step_apps BoKo rfl (.const (.slice none 0 0)) (.tmp 36) rfl wa.heap.size (.slice none 0 0) [] m.d b0 o0 c rfl (Knd.Own.nil _ _) rfl hcs4.out (by simp) (by omega) (Nat.le_refl _) ?_
       intro v' w' hO hg hat
       rw [List.nil_append] at hO
       obtain ⟨g, q, rfl, hgb, hpx, hq1, hq2⟩ := own_px hO p0
       have hbw : Below wa.heap.size wa w' := Below.grown (Below.refl _ _) hg (Nat.le_refl _) (fun k e => by cases e)
       have d0 := keep_cell hbw c0
       have d1 := keep_cell hbw c1
       have d2 := keep_cell hbw c2
       have hx0 := rng_below hx0 hbw
       have hx1 := hx1.below hbw
       have hHeld := And.intro d0 (And.intro d1 d2)
       refine hK.out _ _ ⟨d0, d1, d2⟩ (fun hHeld => ?_)
       clear hK K
       (try simp only [Act.put, Lp0, Lp1, Lp2])
       refine' Ords.take (i := 7) ?_ ?_ ?_ ?_ ?_ ?_ ?_ ?_ ?_
       rotate_left 2
       ·(simp only [List.getElem?_toArray, List.getElem?_cons_succ, List.getElem?_cons_zero]; rfl)
       ·kernel_rfl
       ·kernel_rfl
       ·kernel_rfl
       ·kernel_rfl
       ·exact fun _ _ _ h => h
       ·(refine Or.inl ⟨by rfl, ?_⟩; intro w_ hSw_; (try dsimp only at hSw_); go_simp; (try with_reducible rfl))
       ·assumption
       (try simp only [Act.put, Lp0, Lp1, Lp2])
       have k0 : w'.cell? ⟨gb, 0, none⟩ = some (.int .i64 0) := hx0 0 _ rfl
       have k1 : w'.cell? ⟨gb, 1, none⟩ = some (.int .i64 0) := hx0 1 _ rfl
       have k2 : w'.cell? ⟨gb, 2, none⟩ = some (.slice none 0 0) := hx0 2 _ rfl
       have kf := hx1.fr
       have ltk := cell_lt k0
       refine' Ords.last (by kernel_rfl) (by simp only [List.getElem?_toArray, List.getElem?_cons_succ, List.getElem?_cons_zero]; rfl) (by kernel_rfl) (fun K hK => ?_)
       go_simp
       (try go_wp2_with fail)
       refine hK.out _ _ ?_
       clear hK K
       (try simp only [Act.put, Lp0, Lp1, Lp2])
       have hgne : gb ≠ g := by omega
       have hrx := rng_same (vs := [.int .i64 m.w, .int .i64 m.h, .slice (some ⟨g, 0, none⟩) m.d.length q]) hx0 hx1 rfl
       have hpx2 : PxA (((w'.setCell ⟨gb, 0, none⟩ (.int .i64 m.w)).setCell ⟨gb, 1, none⟩ (.int .i64 m.h)).setCell ⟨gb, 2, none⟩ (.slice (some ⟨g, 0, none⟩) m.d.length q)) g m.d :=
        ⟨fun j v hv => keep_set hgne (keep_set hgne (keep_set hgne (hpx.r j v hv))), hpx.z.set_.set_.set_⟩
       have hb3 := below_set (below_set (below_set (bel_step hdb (bel_step hab hbw)) (show wr.heap.size ≤ gb by omega) 0 (.int .i64 m.w)) (show wr.heap.size ≤ gb by omega) 1 (.int .i64 m.h)) (show wr.heap.size ≤ gb by omega) 2 (.slice (some ⟨g, 0, none⟩) m.d.length q)
       have hfin := hid (And.intro hpx2 (And.intro (And.intro (show (((w'.setCell ⟨gb, 0, none⟩ (.int .i64 m.w)).setCell ⟨gb, 1, none⟩ (.int .i64 m.h)).setCell ⟨gb, 2, none⟩ (.slice (some ⟨g, 0, none⟩) m.d.length q)).rangeAt gb 0 [.int .i64 m.w, .int .i64 m.h, .slice (some ⟨g, 0, none⟩) m.d.length q] from hrx) (hx1.set_ (k := gb) (i := 0) (v := .int .i64 m.w) |>.set_ (k := gb) (i := 1) (v := .int .i64 m.h) |>.set_ (k := gb) (i := 2) (v := .slice (some ⟨g, 0, none⟩) m.d.length q))) (And.intro (show wr.heap.size ≤ gb ∧ wr.heap.size ≤ g ∧ gb ≠ g from ⟨by omega, by omega, hgne⟩) (And.intro (And.intro hq1 hq2) hb3))))
       clear hrx hpx2 hb3 hpx hbw hdb hab hO hg hat hx0 hx1 k0 k1 k2 kf ltk
       go_wp2_with fail
       go_meet
       go_light
       exact ⟨_, g, q, rfl, hfin.out⟩
     case rest =>
      obtain ⟨gb, g, q, rfl, hpx, ⟨hx0, hx1⟩, ⟨hg1, hg2, hg3⟩, ⟨hq1, hq2⟩, hbc⟩ := hcut
      go_wp2_with fail
      have hr1 := rng_below r1 hbc
      have hz1 := zn1.below hbc
      have HB2 := bel_step HB hbc
      have hzw := HB.size
      have hltr := zn1.lt
      clear r1 zn1 c0 c1 c2 hcs2 hcs ltm hb0 hmr p0 hbu
      have hP0 : PxR wc g (wipK m.w m.h m.d l 0) wc := PxR.refl hpx
      have hKp := hid fun (W' : World) (D' : List Bool) (h : PxR wc g D' W') => (show ((W'.cell? ⟨gb, 0, none⟩ = some (.int .i64 m.w) ∧ W'.cell? ⟨gb, 1, none⟩ = some (.int .i64 m.h)) ∧ W'.cell? ⟨gb, 2, none⟩ = some (.slice (some ⟨g, 0, none⟩) m.d.length q)) ∧ Below w.heap.size w W' from
       ⟨⟨⟨h.keep hg3 (hx0 0 _ rfl), h.keep hg3 (hx0 1 _ rfl)⟩, h.keep hg3 (hx0 2 _ rfl)⟩, HB2.trans (h.below (by omega) HB2.size)⟩)
      have hRs := hid fun (W' : World) (D' : List Bool) (h : PxR wc g D' W') => (show ((W'.cell? ⟨w.heap.size + 1, 0, none⟩ = some (.int .i64 0) ∧ W'.cell? ⟨w.heap.size + 1, 1, none⟩ = some (.int .i64 0)) ∧ W'.cell? ⟨w.heap.size + 1, 2, none⟩ = some (.slice none 0 0)) ∧ Zn W' (w.heap.size + 1) from
       ⟨⟨⟨h.keep (by omega) (hr1 0 _ rfl), h.keep (by omega) (hr1 1 _ rfl)⟩, h.keep (by omega) (hr1 2 _ rfl)⟩, h.zn (by omega) hz1⟩)
      have hS : sizeB m.w m.h = true := sizeB_iff.2 hsz.out
      have hlK := hid fun (j : Nat) => (show (wipK m.w m.h m.d l j).length = m.d.length from wipeL_len _ _ _ _)
      have hst := hid fun (j : Nat) (h : j < l.length) => wipK_succ (W := m.w) (H := m.h) (d := m.d) h
      have hPt := hid fun (W' : World) (D' : List Bool) (b : Bx) (hx : 0 ≤ b.x ∧ b.x ≤ 1000000) (hy : 0 ≤ b.y ∧ b.y ≤ 1000000) (hbw : -1000000 ≤ b.w ∧ b.w ≤ 1000000) (hbh : -1000000 ≤ b.h ∧ b.h ≤ 1000000) (hD : D'.length = m.d.length) (h : PxR wc g D' W') =>
       paint_g m.w m.h b D' g m.d.length q false (w := W') hS (by rw [hD]; exact hsd.out) hD hx hy hbw hbh h.a
      have hall := hid (show wipeL m.w m.h m.d l = wipK m.w m.h m.d l l.length from by unfold wipK; rw [List.take_length])
      have hfl := hid fun (D' : List Bool) (W' : World) (h : PxR wc g D' W') (e : D' = wipK m.w m.h m.d l l.length) => (show BoK.Rd (((W'.setCell ⟨w.heap.size + 1, 0, none⟩ (.int .i64 m.w)).setCell ⟨w.heap.size + 1, 1, none⟩ (.int .i64 m.h)).setCell ⟨w.heap.size + 1, 2, none⟩ (.slice (some ⟨g, 0, none⟩) m.d.length q)) (some ⟨g, 0, none⟩) q (wipK m.w m.h m.d l l.length) from by
       have hne : w.heap.size + 1 ≠ g := by omega
       refine PxA.rd (d := wipK m.w m.h m.d l l.length) ⟨fun j v hv => keep_set hne (keep_set hne (keep_set hne (h.a.r j v (by rw [e]; exact hv)))), h.a.z.set_.set_.set_⟩ (by rw [hlK.out]; exact hq1) hq2)
      have hlf := hlK.out l.length
      generalize wipK m.w m.h m.d l = Kf at *
      replace hlf := hid hlf
      clear hpx hx0 hx1 hr1 hz1 HB2 hS hb
      obtain ⟨⟨⟨c0, c1⟩, c2⟩, _⟩ := hKp.out wc _ hP0
      go_wp2
      clear c0 c1 c2
      go_loopw [41] (fun s41 wr => ∃ i : Nat, s41 = .int .i64 i ∧ i ≤ n ∧ PxR wc g (Kf i) wr) (fun s41 _ => n - (intOf s41).toNat)
      case atStart => exact ⟨0, rfl, by omega, hP0⟩
      case round =>
       clear hP0
       obtain ⟨i, rfl, hi, hR⟩ := hrel
       obtain ⟨⟨⟨c0, c1⟩, c2⟩, HBr⟩ := hKp.out wr _ hR
       by_cases hin : i < n
       ·have hii : (i : Int) < (n : Int) := by omega
        have hil : i < l.length := by have := hn.out; omega
        obtain ⟨b, o, hA3, hc⟩ := hM.out i hin wr HBr
        have f0 : wr.cell? ⟨b, (o + i * 5), none⟩ = some (.bool l[i].v) := hc 0 _ rfl
        have f1 : wr.cell? ⟨b, (o + i * 5) + 1, none⟩ = some (.int .i64 l[i].a) := hc 1 _ rfl
        have f2 : wr.cell? ⟨b, (o + i * 5) + 2, none⟩ = some (.int .i64 l[i].t) := hc 2 _ rfl
        have f3 : wr.cell? ⟨b, (o + i * 5) + 3, none⟩ = some (.int .i64 l[i].f) := hc 3 _ rfl
        have f4 : wr.cell? ⟨b, (o + i * 5) + 4, none⟩ = some (.int .i64 l[i].o) := hc 4 _ rfl
        clear hc
        subst hA3
        have hok := hAll.out i hil
        obtain ⟨⟨bx1, bx2⟩, bx3, bx4⟩ := boxR_ok hok
        have hst2 := hid (hst.out i hil)
        have hp := hid fun (W' : World) (h : PxR wc g (Kf i) W') => hPt.out W' (Kf i) (boxR l[i]) bx1 bx2 bx3 bx4 (hlK.out i) h
        have hok2 := okR_iff.1 hok
        clear hok bx1 bx2 bx3 bx4
        generalize l[i] = z at *
        obtain ⟨zv, za, zt, zf, zo⟩ := z
        dsimp only at f0 f1 f2 f3 f4 hok2
        have hws : IntKind.i64.wrap (zo - zf) = zo - zf := by rw [IntKind.wrap_i64]; omega
        clear hok2
        clear hM hRs hPt hst hlK hfl hAll hall hlf
        cases zv
        ·have hp2 := hid fun (W' : World) (h : PxR wc g (Kf i) W') => (show Calls Try.prog 18 #[.agg #[.int .i64 m.w, .int .i64 m.h, .slice (some ⟨g, 0, none⟩) m.d.length q], .agg #[.int .i64 zf, .int .i64 za, .int .i64 (zo - zf), .int .i64 zt], .bool false] W' fun e w' => e = .returned (.tuple #[]) ∧ PxR W' g (Kf (i + 1)) w' from by rw [hst2.out]; exact hp.out W' h)
         clear hp hst2
         go_upto_region 18 with fail
         refine enterR2 (P := fun u => Code.wp _ _ _ _ u) (c0 := [.bool false, .int .i64 za, .int .i64 zt, .int .i64 zf, .int .i64 zo]) (c1 := [.int .i64 zf, .int .i64 za, .int .i64 (zo - zf), .int .i64 zt]) ?_
         intro x hbx s0 s1 zx0 zx1 hsx
         clear s0 zx0 zx1 hsx f0 f1 f2 f3 f4
         have hRx := hR.goes hbx
         have x0 : x.cell? ⟨wr.heap.size + 1, 0, none⟩ = some (.int .i64 zf) := s1 0 _ rfl
         have x1 : x.cell? ⟨wr.heap.size + 1, 1, none⟩ = some (.int .i64 za) := s1 1 _ rfl
         have x2 : x.cell? ⟨wr.heap.size + 1, 2, none⟩ = some (.int .i64 (zo - zf)) := s1 2 _ rfl
         have x3 : x.cell? ⟨wr.heap.size + 1, 3, none⟩ = some (.int .i64 zt) := s1 3 _ rfl
         have c0 := keep_cell hbx c0
         have c1 := keep_cell hbx c1
         have c2 := keep_cell hbx c2
         clear s1 hR hbx
         have hp3 := hid (hp2.out x hRx)
         clear hp2
         go_wp2_with fail
         refine hp3.out.mono ?_
         rintro e y ⟨rfl, hy⟩
         replace hy := hid (PxR.trans hRx hy)
         clear hp3 c0 c1 c2 x0 x1 x2 x3 hRx
         go_wp2
         go_roundw
         case rel => exact ⟨i + 1, by go_num, by omega, hy.out⟩
         case measure => simp [intOf]; omega
        ·have hp2 := hid fun (W' : World) (h : PxR wc g (Kf i) W') => (show Calls Try.prog 18 #[.agg #[.int .i64 m.w, .int .i64 m.h, .slice (some ⟨g, 0, none⟩) m.d.length q], .agg #[.int .i64 za, .int .i64 zf, .int .i64 zt, .int .i64 (zo - zf)], .bool false] W' fun e w' => e = .returned (.tuple #[]) ∧ PxR W' g (Kf (i + 1)) w' from by rw [hst2.out]; exact hp.out W' h)
         clear hp hst2
         go_upto_region 18 with fail
         refine enterR2 (P := fun u => Code.wp _ _ _ _ u) (c0 := [.bool true, .int .i64 za, .int .i64 zt, .int .i64 zf, .int .i64 zo]) (c1 := [.int .i64 za, .int .i64 zf, .int .i64 zt, .int .i64 (zo - zf)]) ?_
         intro x hbx s0 s1 zx0 zx1 hsx
         clear s0 zx0 zx1 hsx f0 f1 f2 f3 f4
         have hRx := hR.goes hbx
         have x0 : x.cell? ⟨wr.heap.size + 1, 0, none⟩ = some (.int .i64 za) := s1 0 _ rfl
         have x1 : x.cell? ⟨wr.heap.size + 1, 1, none⟩ = some (.int .i64 zf) := s1 1 _ rfl
         have x2 : x.cell? ⟨wr.heap.size + 1, 2, none⟩ = some (.int .i64 zt) := s1 2 _ rfl
         have x3 : x.cell? ⟨wr.heap.size + 1, 3, none⟩ = some (.int .i64 (zo - zf)) := s1 3 _ rfl
         have c0 := keep_cell hbx c0
         have c1 := keep_cell hbx c1
         have c2 := keep_cell hbx c2
         clear s1 hR hbx
         have hp3 := hid (hp2.out x hRx)
         clear hp2
         go_wp2_with fail
         refine hp3.out.mono ?_
         rintro e y ⟨rfl, hy⟩
         replace hy := hid (PxR.trans hRx hy)
         clear hp3 c0 c1 c2 x0 x1 x2 x3 hRx
         go_wp2
         go_roundw
         case rel => exact ⟨i + 1, by go_num, by omega, hy.out⟩
         case measure => simp [intOf]; omega
       ·obtain rfl : n = i := by omega
        have hii : ¬ (n : Int) < (n : Int) := by omega
        obtain ⟨⟨⟨k0, k1⟩, k2⟩, zg⟩ := hRs.out wr _ hR
        have hRd := hid (hfl.out _ wr hR (by rw [hn.out]))
        have ltk := cell_lt k0
        have fk := zg.fr
        have HBf := hid (below_set (below_set (below_set HBr (show w.heap.size ≤ w.heap.size + 1 by omega) 0 (.int .i64 m.w)) (show w.heap.size ≤ w.heap.size + 1 by omega) 1 (.int .i64 m.h)) (show w.heap.size ≤ w.heap.size + 1 by omega) 2 (.slice (some ⟨g, 0, none⟩) m.d.length q))
        clear hR zg HBr hM hKp hRs hPt hst hlK hfl
        go_wp2
        refine bodyPost_ret (v := .tuple #[.agg #[.int .i64 m.w, .int .i64 m.h, .slice (some ⟨g, 0, none⟩) m.d.length q], .int .i64 0]) ?_ rfl ?_
        ·simp [results, Try.results10, go_sem, k0, k1, k2]
        ·exact ⟨some ⟨g, 0, none⟩, q, by rw [hall.out, hlf.out], by rw [hall.out]; exact hRd.out, HBf.out⟩
end Go.Proofs.Ytjfgklhifhaaoaa
