/- Tables: the sweep over the rows. Conditions: at most 4096 rows of at most 4096 ascending runs. -/
import Derived.Test.YtjfgklhifhaaoaaZMA
import Derived.Test.YtjfgklhifhaaoaaZTw9
set_option linter.unusedVariables false
set_option linter.unusedSimpArgs false
namespace Go.Proofs.Ytjfgklhifhaaoaa
open Go.RowKit
/-- the lines of a direction come back, or more of them than a page may have -/
def RetSw (R : Nat → List (Nat × Nat)) (h : Nat) (v : Bool) (w : World) (e : Ending) (w' : World) : Prop := ∃ u L, e = .returned u ∧ RuK.Own w' w.heap.size u L ∧ Below w.heap.size w w' ∧ L.length ≤ 100000000 ∧ (L = linR R h v ∨ 4096 < L.length ∧ 4096 < (linR R h v).length)
theorem not_ltR {a b : Ru} (h : ¬ cmpR b a < 0) : ¬ ltR b a := fun x => h (by
 unfold cmpR
 unfold ltR at x
 split <;> (try split) <;> (try split) <;> (try split) <;> omega)
theorem accR_top {R : Nat → List (Nat × Nat)} {h : Nat} {v : Bool} (hR : ∀ y, (R y).Pairwise fun r s => r.1 < s.1) {n : Nat} (hn : n ≤ h + 1) (hl : 4096 < (accR R h v n).length) : 4096 < (linR R h v).length := by
 rw [linR_len hR]
 exact Nat.lt_of_lt_of_le hl (accR_mono hn)
theorem accR_le {R : Nat → List (Nat × Nat)} {h : Nat} {v : Bool} (hl : ∀ y, (R y).length ≤ 4096) : ∀ n, (accR R h v n).length ≤ n * 4096
 | 0 => by simp [accR]
 | n + 1 => by
  have h1 := accR_le (h := h) (v := v) hl n
  have h2 : (outR R h v n).length ≤ 4096 := by
   match n with
   | 0 => simp [outR]
   | n + 1 =>
    unfold outR
    rw [List.length_map]
    exact Nat.le_trans (List.length_filter_le _ _) (hl n)
  rw [accR, List.length_append]
  omega
set_option maxRecDepth 100000 in
set_option maxHeartbeats 16000000 in
theorem Tswp_g (h : Nat) (v : Bool) (g : Nat) (lb : Array Value) (R : Nat → List (Nat × Nat)) {w : World} (eg : ∀ args w, (callFunc g args).run Try.prog w = .ok (.enter g args) w) (hh : h ≤ 4096)
  (hR : ∀ y, (R y).Pairwise fun r s => r.1 < s.1) (hlen : ∀ y, (R y).length ≤ 4096) (hF0 : ∀ (V : World), Below w.heap.size w V → ∀ y : Nat, y < h → Calls Try.prog g (#[.int .i64 (y : Int)] ++ lb) V (RnK.Ret V (R y))) :
  Calls Try.prog 20 #[.int .i64 (h : Int), .bool v, .func (.func g) #[] lb] w (RetSw R h v w) := by
 have hF := hid hF0
 have hS0 : Sw w (w.alloc (.map #[] 0)) (.slice none 0 0) (.slice none 0 0) (.slice none 0 0) (accR R h v 0) (abvR R h 0) [] (mapF R h 0) :=
  ⟨Knd.Own.nil _ _, Knd.Own.nil _ _, Knd.Own.nil _ _, .inl rfl, .inl rfl, (MapR.made w).cast (fun r => by unfold mapF abvR; simp), (Below.refl _ _).alloc (Nat.le_refl _) _⟩
 have hrl := hid fun (y : Nat) => (show (rowR R h y).length ≤ 4096 from by unfold rowR; split; exact hlen y; simp)
 have hal := hid fun (y : Nat) => (show (abvR R h y).length ≤ 4096 from by
  match y with
  | 0 => simp [abvR]
  | y + 1 => exact hrl.out y)
 have hrs := hid fun (y : Nat) => rowR_srt hR h y
 have has := hid fun (y : Nat) => abvR_srt hR h y
 have htop := hid fun (n : Nat) (hn : n ≤ h + 1) (hl : 4096 < (accR R h v n).length) => accR_top hR hn hl
 have hsrt := hid fun (L : List Ru) (hp : L.Perm (accR R h v (h + 1))) (hs : L.Pairwise fun a b => ¬ ltR b a) => swp_sort hR hp hs
 have hrow := hid fun (y : Nat) (hy : y < h) => rowR_in (R := R) hy
 have hmk := @run_makeMap Try.prog
 have hacl := hid fun (n : Nat) => accR_le (h := h) (v := v) hlen n
 clear hF0 hR hlen
 go_enter Try.func20, Try.ntmps20
 go_wp2
 clear hmk
 go_loopw [10, 7, 9] (fun s10 s7 s9 wr => ∃ y : Nat, s10 = .int .i64 (y : Int) ∧ y ≤ h + 1 ∧ Sw w wr s7 s9 (.slice none 0 0) (accR R h v y) (abvR R h y) [] (mapF R h y)) (fun s10 _ _ _ => h + 1 - (intOf s10).toNat)
 case atStart => exact ⟨0, rfl, by omega, hS0⟩
 case round =>
  clear hS0
  obtain ⟨y, rfl, hy, hS⟩ := hrel
  obtain ⟨A7, c7, e7⟩ := hS.l.form RuKo
  obtain ⟨n7, hn7⟩ : ∃ n, (accR R h v y).length = n := ⟨_, rfl⟩
  rw [hn7] at e7
  subst e7
  obtain ⟨A9, c9, e9⟩ := hS.a.form RnKo
  obtain ⟨n9, hn9⟩ : ∃ n, (abvR R h y).length = n := ⟨_, rfl⟩
  rw [hn9] at e9
  subst e9
  replace hn7 := hid hn7
  replace hn9 := hid hn9
  by_cases hyh : y ≤ h
  ·have hyi : (y : Int) ≤ (h : Int) := by omega
   by_cases hl7 : n7 ≤ 4096
   ·have hli : (n7 : Int) ≤ 4096 := by omega
    go_upto_if 31 with fail
    have hw1 := hS.b.size
    have hlm := hS.m.lt
    go_cut [11] (fun s11 wx => Sw w wx (.slice A7 n7 c7) (.slice A9 n9 c9) s11 (accR R h v y) (abvR R h y) (rowR R h y) (mapF R h y) ∧ wr.heap.size ≤ wx.heap.size)
    case first =>
     by_cases hyl : y < h
     ·have hyli : (y : Int) < (h : Int) := by omega
      have hre := hrow.out y hyl
      have hf := hid (hF.out wr hS.b y hyl)
      clear hF hrl hal hrs has htop hsrt hrow hn7 hn9
      go_wp2_with fail
      refine hf.out.mono ?_
      rintro e w1 ⟨vh, rfl, hO, hb⟩
      clear hf
      have hfin := hid (show Sw w w1 (.slice A7 n7 c7) (.slice A9 n9 c9) vh (accR R h v y) (abvR R h y) (rowR R h y) (mapF R h y) ∧ wr.heap.size ≤ w1.heap.size from by
       have s := hS.below hb
       rw [hre]
       exact ⟨⟨s.l, s.a, hO.older (by omega), s.al, own_sep hO hS.l (Nat.le_refl _), s.m, s.b⟩, hb.size⟩)
      go_wp2
      go_meet
      go_light
      exact hfin.out
     ·have hyli : ¬ (y : Int) < (h : Int) := by omega
      have hre : rowR R h y = [] := if_neg hyl
      have hfin := hid (show Sw w wr (.slice A7 n7 c7) (.slice A9 n9 c9) (.slice none 0 0) (accR R h v y) (abvR R h y) (rowR R h y) (mapF R h y) ∧ wr.heap.size ≤ wr.heap.size from by
       rw [hre]; exact ⟨hS, Nat.le_refl _⟩)
      clear hF hrl hal hrs has htop hsrt hrow hn7 hn9 hS
      go_wp2
      go_meet
      go_light
      exact hfin.out
    case rest =>
     obtain ⟨hS2, hsz⟩ := hcut
     obtain ⟨A1, c1, e1⟩ := hS2.h.form RnKo
     obtain ⟨n1, hn1⟩ : ∃ n, (rowR R h y).length = n := ⟨_, rfl⟩
     rw [hn1] at e1
     subst e1
     have hn14 : n1 ≤ 4096 := by rw [← hn1]; exact hrl.out y
     have hn94 : n9 ≤ 4096 := by rw [← hn9.out]; exact hal.out y
     have hHs := hid (hrs.out y)
     have hAs := hid (has.out y)
     have hoj := hid (outJ_all (R := R) (v := v) hyh)
     have h3e := hid fun r => g3_end (R := R) hyh r
     have hb_ := hid fun (r : Nat × Nat) (hr : r ∈ abvR R h y) => (show begR R (y - 1) r ≤ y from Nat.le_trans (begR_le R (y - 1) r) (Nat.sub_le _ _))
     have hacc := hid (show accR R h v (y + 1) = accR R h v y ++ outR R h v y from rfl)
     have habs : abvR R h (y + 1) = rowR R h y := rfl
     have hS3 := hid (hS2.cast (L' := accR R h v y ++ outJ (abvR R h y) (rowR R h y) (begR R (y - 1)) v y 0) (f' := g2F (abvR R h y) (rowR R h y) (begR R (y - 1)) 0) (by unfold outJ; simp) (fun r => g2_zero r))
     replace habs := hid habs
     replace hn1 := hid hn1
     generalize hq1 : mapF R h (y + 1) = M2 at *
     generalize hq2 : abvR R h (y + 1) = Ab2 at *
     generalize hq3 : accR R h v (y + 1) = Ac2 at *
     replace hq1 := hid hq1
     replace hq2 := hid hq2
     replace hq3 := hid hq3
     generalize accR R h v y = L0 at *
     generalize outR R h v y = O0 at *
     generalize rowR R h y = H at *
     generalize abvR R h y = A at *
     generalize begR R (y - 1) = bg at *
     go_wp2_with fail
     clear hS2 hS hF hrl hal hrs has hrow
     go_loopw [37, 7] (fun s37 s7 wz => ∃ j : Nat, s37 = .int .i64 (j : Int) ∧ j ≤ n9 ∧ Sw w wz s7 (.slice A9 n9 c9) (.slice A1 n1 c1) (L0 ++ outJ A H bg v y j) A H (g2F A H bg j)) (fun s37 _ _ => n9 - (intOf s37).toNat)
     case atStart => exact ⟨0, rfl, by omega, hS3.out⟩
     case round =>
      clear hS3
      obtain ⟨j, rfl, hj, hS⟩ := hrel
      by_cases hjn : j < n9
      ·have hji : (j : Int) < (n9 : Int) := by omega
       have hjl : j < A.length := by have := hn9.out; omega
       obtain ⟨hrd9, -⟩ := hS.a.rd2 RnKo
       obtain ⟨hrd1, -⟩ := hS.h.rd2 RnKo
       have HC := hid fun (W : World) (hb : Below wr.heap.size wr W) (r : Nat × Nat) => (show Calls Try.prog 35 #[.slice A1 n1 c1, .agg #[.int .i64 (r.1 : Int), .int .i64 (r.2 : Int)]] W (RetB W (decide (r ∈ H))) from by
        have := Tcon_g H A1 c1 r (hrd1.below hb) hHs.out (by have := hn1.out; omega)
        rwa [hn1.out] at this)
       obtain ⟨b, o, hA3, hc⟩ := hrd9.at_ (j := j) hjl
       have f0 : wr.cell? ⟨b, o + j * 2, none⟩ = some (.int .i64 (A[j].1 : Int)) := hc 0 _ rfl
       have f1 : wr.cell? ⟨b, o + j * 2 + 1, none⟩ = some (.int .i64 (A[j].2 : Int)) := hc 1 _ rfl
       subst hA3
       have hbj := hb_.out _ (List.getElem_mem hjl)
       have hat := hid (g2_at (H := H) (b := bg) hAs.out hjl)
       have hin := hid fun (h1 : A[j] ∈ H) => And.intro (show L0 ++ outJ A H bg v y j = L0 ++ outJ A H bg v y (j + 1) from by rw [outJ_skip hjl h1]) (fun r => g2_keep (b := bg) hjl h1 r)
       have hout := hid fun (h1 : A[j] ∉ H) => And.intro (show L0 ++ outJ A H bg v y (j + 1) = (L0 ++ outJ A H bg v y j) ++ [mkR v (bg A[j]) (y - bg A[j]) A[j]] from by rw [outJ_take hjl h1, List.append_assoc]) (fun r => g2_del (b := bg) hjl h1 r)
       have hLl : (L0 ++ outJ A H bg v y j).length ≤ 8192 := by
        have := hn7.out
        have := hn9.out
        have := outJ_len (A := A) (H := H) (b := bg) (v := v) (y := y) (j := j)
        rw [List.length_append]
        omega
       generalize hzz : A[j] = z at *
       replace hzz := hid hzz
       have hlq := hid fun (k : Nat) (hk : u7.ownBlock = some k) => hS.l.lt hk
       clear hc hrd9 hrd1
       obtain ⟨z0, z1⟩ := z
       dsimp only at f0 f1
       generalize bg (z0, z1) = B0 at *
       obtain ⟨t, ht⟩ : ∃ t, decide ((z0, z1) ∈ H) = t := ⟨_, rfl⟩
       have HC2 := hid fun (W : World) (hb : Below wr.heap.size wr W) => (show Calls Try.prog 35 #[.slice A1 n1 c1, .agg #[.int .i64 (z0 : Int), .int .i64 (z1 : Int)]] W (RetB W t) from by rw [← ht]; exact HC.out W hb (z0, z1))
       clear HC
       go_upto_region 13 with fail
       refine enterR (P := fun u => Code.wp _ _ _ _ u) (c := [.int .i64 (z0 : Int), .int .i64 (z1 : Int)]) ?_
       intro x hbx s0 zx hsx
       have d0 : x.cell? ⟨wr.heap.size, 0, none⟩ = some (.int .i64 (z0 : Int)) := s0 0 _ rfl
       have d1 : x.cell? ⟨wr.heap.size, 1, none⟩ = some (.int .i64 (z1 : Int)) := s0 1 _ rfl
       clear s0 zx hsx f0 f1
       go_wp2_with fail
       refine (HC2.out x hbx).mono ?_
       rintro e x2 ⟨rfl, hv2⟩
       have d0 := keep_cell hv2 d0
       have d1 := keep_cell hv2 d1
       replace hS := hS.below (bel_step hbx hv2)
       clear HC2 hv2 hbx
       cases t
       ·have h1 : (z0, z1) ∉ H := by simpa using ht
        obtain ⟨q1, q2⟩ := hout.out h1
        have hwy : IntKind.i64.wrap ((y : Int) - (B0 : Int)) = ((y - B0 : Nat) : Int) := by rw [IntKind.wrap_i64]; omega
        have hlk := hid fun (W : World) (h : MapR W w.heap.size (g2F A H bg j)) => (show (Instr.lookup 83 (.map (some w.heap.size)) (.agg #[.int .i64 (z0 : Int), .int .i64 (z1 : Int)]) false).run Try.prog W = .ok (.int .i64 (B0 : Int)) W from by
         have := h.look (z0, z1) false
         rw [hat.out] at this
         exact this)
        have hfin := hid fun (vl' : Value) (W : World) (h : Sw w W vl' (.slice (some ⟨b, o, none⟩) n9 c9) (.slice A1 n1 c1) ((L0 ++ outJ A H bg v y j) ++ [mkR v B0 (y - B0) (z0, z1)]) A H (updM (g2F A H bg j) (z0, z1) none)) => h.cast q1.symm q2
        have hdl := hid fun (W : World) (h : MapR W w.heap.size (g2F A H bg j)) => h.del hat.out
        clear hin hout ht q1 q2 h1 hat
        obtain ⟨Lc, hLc⟩ : ∃ L, L0 ++ outJ A H bg v y j = L := ⟨_, rfl⟩
        rw [hLc] at hS hLl hfin
        obtain ⟨fM, hfM⟩ : ∃ f, g2F A H bg j = f := ⟨_, rfl⟩
        rw [hfM] at hS hfin hlk hdl
        clear hLc hfM
        obtain ⟨gT, hgT⟩ : ∃ g, wr.heap.size = g := ⟨_, rfl⟩
        rw [hgT] at d0 d1 ⊢
        have hneQ : some gT ≠ u7.ownBlock := fun e => by
         have := (hlq.out _ e.symm).2
         omega
        clear hgT
        go_upto_region 14 with fail
        refine Ords.start (x := 17) (S := fun w' => w'.cell? ⟨gT, 0, none⟩ = some (.int .i64 (z0 : Int)) ∧ w'.cell? ⟨gT, 1, none⟩ = some (.int .i64 (z1 : Int)) ∧ MapR w' w.heap.size fM) (by kernel_rfl) ⟨d0, d1, hS.m⟩ (fun hHeld => ?_)
        have hdb : Below x2.heap.size x2 x2.drew := (Below.refl _ _).drew
        replace hS := hS.below hdb
        generalize x2.drew = xd at hS hHeld ⊢
        refine' Ords.take (i := 0) ?_ ?_ ?_ ?_ ?_ ?_ ?_ ?_ ?_
        rotate_left 2
        ·(simp only [List.getElem?_toArray, List.getElem?_cons_succ, List.getElem?_cons_zero]; rfl)
        ·kernel_rfl
        ·kernel_rfl
        ·kernel_rfl
        ·kernel_rfl
        ·exact fun _ _ _ h => h
        ·(refine Or.inl ⟨by rfl, ?_⟩; intro w_ hSw_; (try dsimp only at hSw_); go_simp; (try with_reducible rfl))
        ·assumption
        (try simp only [Act.put, Lp0, Lp1, Lp2])
        refine' Ords.take (i := 1) ?_ ?_ ?_ ?_ ?_ ?_ ?_ ?_ ?_
        rotate_left 2
        ·(simp only [List.getElem?_toArray, List.getElem?_cons_succ, List.getElem?_cons_zero]; rfl)
        ·kernel_rfl
        ·kernel_rfl
        ·kernel_rfl
        ·kernel_rfl
        ·exact fun _ _ _ h => h
        ·(refine Or.inl ⟨by rfl, ?_⟩; intro w_ hSw_; (try dsimp only at hSw_); go_simp; (try with_reducible rfl))
        ·assumption
        (try simp only [Act.put, Lp0, Lp1, Lp2])
        refine' Ords.take (i := 2) ?_ ?_ ?_ ?_ ?_ ?_ ?_ ?_ ?_
        rotate_left 2
        ·(simp only [List.getElem?_toArray, List.getElem?_cons_succ, List.getElem?_cons_zero]; rfl)
        ·kernel_rfl
        ·kernel_rfl
        ·kernel_rfl
        ·kernel_rfl
        ·exact fun _ _ _ h => h
        ·(refine Or.inl ⟨by rfl, ?_⟩; intro w_ hSw_; (try dsimp only at hSw_); go_simp; (try with_reducible rfl))
        ·assumption
        (try simp only [Act.put, Lp0, Lp1, Lp2])
        refine' Ords.take (i := 3) ?_ ?_ ?_ ?_ ?_ ?_ ?_ ?_ ?_
        rotate_left 2
        ·(simp only [List.getElem?_toArray, List.getElem?_cons_succ, List.getElem?_cons_zero]; rfl)
        ·kernel_rfl
        ·kernel_rfl
        ·kernel_rfl
        ·kernel_rfl
        ·exact fun _ _ _ h => h
        ·(refine Or.inl ⟨by rfl, ?_⟩; intro w_ hSw_; (try dsimp only at hSw_); go_simp; (try with_reducible rfl))
        ·assumption
        (try simp only [Act.put, Lp0, Lp1, Lp2])
        refine' Ords.take (i := 4) ?_ ?_ ?_ ?_ ?_ ?_ ?_ ?_ ?_
        rotate_left 2
        ·(simp only [List.getElem?_toArray, List.getElem?_cons_succ, List.getElem?_cons_zero]; rfl)
        ·kernel_rfl
        ·kernel_rfl
        ·kernel_rfl
        ·kernel_rfl
        ·exact fun _ _ _ h => h
        ·(refine Or.inl ⟨by rfl, ?_⟩; intro w_ hSw_; (try dsimp only at hSw_); have hl_ := hlk.out w_ hSw_.2.2; go_simp; (try with_reducible rfl))
        ·assumption
        (try simp only [Act.put, Lp0, Lp1, Lp2])
        refine' Ords.take (i := 5) ?_ ?_ ?_ ?_ ?_ ?_ ?_ ?_ ?_
        rotate_left 2
        ·(simp only [List.getElem?_toArray, List.getElem?_cons_succ, List.getElem?_cons_zero]; rfl)
        ·kernel_rfl
        ·kernel_rfl
        ·kernel_rfl
        ·kernel_rfl
        ·exact fun _ _ _ h => h
        ·(refine Or.inl ⟨by rfl, ?_⟩; intro w_ hSw_; (try dsimp only at hSw_); go_simp; (try with_reducible rfl))
        ·assumption
        (try simp only [Act.put, Lp0, Lp1, Lp2])
        refine' Ords.take (i := 6) ?_ ?_ ?_ ?_ ?_ ?_ ?_ ?_ ?_
        rotate_left 2
        ·(simp only [List.getElem?_toArray, List.getElem?_cons_succ, List.getElem?_cons_zero]; rfl)
        ·kernel_rfl
        ·kernel_rfl
        ·kernel_rfl
        ·kernel_rfl
        ·exact fun _ _ _ h => h
        ·(refine Or.inl ⟨by rfl, ?_⟩; intro w_ hSw_; (try dsimp only at hSw_); go_simp; (try with_reducible rfl))
        ·assumption
        (try simp only [Act.put, Lp0, Lp1, Lp2])
        refine' Ords.take (i := 7) ?_ ?_ ?_ ?_ ?_ ?_ ?_ ?_ ?_
        rotate_left 2
        ·(simp only [List.getElem?_toArray, List.getElem?_cons_succ, List.getElem?_cons_zero]; rfl)
        ·kernel_rfl
        ·kernel_rfl
        ·kernel_rfl
        ·kernel_rfl
        ·exact fun _ _ _ h => h
        ·(refine Or.inl ⟨by rfl, ?_⟩; intro w_ hSw_; (try dsimp only at hSw_); go_simp; (try with_reducible rfl))
        ·assumption
        (try simp only [Act.put, Lp0, Lp1, Lp2])
        refine' Ords.take (i := 8) ?_ ?_ ?_ ?_ ?_ ?_ ?_ ?_ ?_
        rotate_left 2
        ·(simp only [List.getElem?_toArray, List.getElem?_cons_succ, List.getElem?_cons_zero]; rfl)
        ·kernel_rfl
        ·kernel_rfl
        ·kernel_rfl
        ·kernel_rfl
        ·exact fun _ _ _ h => h
        ·(refine Or.inl ⟨by rfl, ?_⟩; intro w_ hSw_; (try dsimp only at hSw_); have hl_ := hlk.out w_ hSw_.2.2; go_simp; (try with_reducible rfl))
        ·assumption
        (try simp only [Act.put, Lp0, Lp1, Lp2])
        refine' Ords.take (i := 9) ?_ ?_ ?_ ?_ ?_ ?_ ?_ ?_ ?_
        rotate_left 2
        ·(simp only [List.getElem?_toArray, List.getElem?_cons_succ, List.getElem?_cons_zero]; rfl)
        ·kernel_rfl
        ·kernel_rfl
        ·kernel_rfl
        ·kernel_rfl
        ·exact fun _ _ _ h => h
        ·(refine Or.inl ⟨by rfl, ?_⟩; intro w_ hSw_; (try dsimp only at hSw_); go_simp; (try with_reducible rfl))
        ·assumption
        (try simp only [Act.put, Lp0, Lp1, Lp2])
        refine' Ords.take (i := 10) ?_ ?_ ?_ ?_ ?_ ?_ ?_ ?_ ?_
        rotate_left 2
        ·(simp only [List.getElem?_toArray, List.getElem?_cons_succ, List.getElem?_cons_zero]; rfl)
        ·kernel_rfl
        ·kernel_rfl
        ·kernel_rfl
        ·kernel_rfl
        ·exact fun _ _ _ h => h
        ·(refine Or.inl ⟨by rfl, ?_⟩; intro w_ hSw_; (try dsimp only at hSw_); go_simp; (try with_reducible rfl))
        ·assumption
        (try simp only [Act.put, Lp0, Lp1, Lp2])
        refine' Ords.take (i := 11) ?_ ?_ ?_ ?_ ?_ ?_ ?_ ?_ ?_
        rotate_left 2
        ·(simp only [List.getElem?_toArray, List.getElem?_cons_succ, List.getElem?_cons_zero]; rfl)
        ·kernel_rfl
        ·kernel_rfl
        ·kernel_rfl
        ·kernel_rfl
        ·exact fun _ _ _ h => h
        ·(refine Or.inl ⟨by rfl, ?_⟩; intro w_ hSw_; (try dsimp only at hSw_); go_simp; (try with_reducible rfl))
        ·assumption
        (try simp only [Act.put, Lp0, Lp1, Lp2])
        refine' Ords.take (i := 12) ?_ ?_ ?_ ?_ ?_ ?_ ?_ ?_ ?_
        rotate_left 2
        ·(simp only [List.getElem?_toArray, List.getElem?_cons_succ, List.getElem?_cons_zero]; rfl)
        ·kernel_rfl
        ·kernel_rfl
        ·kernel_rfl
        ·kernel_rfl
        ·exact fun _ _ _ h => h
        ·(refine Or.inl ⟨by rfl, ?_⟩; intro w_ hSw_; (try dsimp only at hSw_); go_simp; (try with_reducible rfl))
        ·assumption
        (try simp only [Act.put, Lp0, Lp1, Lp2])
        refine' Ords.take (i := 13) ?_ ?_ ?_ ?_ ?_ ?_ ?_ ?_ ?_
        rotate_left 2
        ·(simp only [List.getElem?_toArray, List.getElem?_cons_succ, List.getElem?_cons_zero]; rfl)
        ·kernel_rfl
        ·kernel_rfl
        ·kernel_rfl
        ·kernel_rfl
        ·exact fun _ _ _ h => h
        ·(refine Or.inl ⟨by rfl, ?_⟩; intro w_ hSw_; (try dsimp only at hSw_); go_simp; (try with_reducible rfl))
        ·assumption
        (try simp only [Act.put, Lp0, Lp1, Lp2])
        refine' Ords.take (i := 14) ?_ ?_ ?_ ?_ ?_ ?_ ?_ ?_ ?_
        rotate_left 2
        ·(simp only [List.getElem?_toArray, List.getElem?_cons_succ, List.getElem?_cons_zero]; rfl)
        ·kernel_rfl
        ·kernel_rfl
        ·kernel_rfl
        ·kernel_rfl
        ·exact fun _ _ _ h => h
        ·(refine Or.inl ⟨by rfl, ?_⟩; intro w_ hSw_; (try dsimp only at hSw_); go_simp; (try with_reducible rfl))
        ·assumption
        (try simp only [Act.put, Lp0, Lp1, Lp2])
        have hab : Below xd.heap.size xd (xd.alloc (.cells #[.bool v, .int .i64 (B0 : Int), .int .i64 ((y - B0 : Nat) : Int), .int .i64 (z0 : Int), .int .i64 (z1 : Int)] 54)) := (Below.refl _ _).alloc (Nat.le_refl _) _
        have hra := rng_alloc (w := xd) (cs := [.bool v, .int .i64 (B0 : Int), .int .i64 ((y - B0 : Nat) : Int), .int .i64 (z0 : Int), .int .i64 (z1 : Int)]) (t := 54)
        refine' Ords.step (i := 15) (by kernel_rfl) (by simp only [List.getElem?_toArray, List.getElem?_cons_succ, List.getElem?_cons_zero]; rfl) (fun K hK => ?_)
        go_simp
        skip
        (try go_wp2_with fail)
        refine hK.out _ _ ?_ (fun hHeld => ?_)
        ·exact ⟨keep_alloc hHeld.1, keep_alloc hHeld.2.1, hHeld.2.2.below hab⟩
        clear hK K
        (try simp only [Act.put, Lp0, Lp1, Lp2])
        have hSa := hS.below hab
        obtain ⟨xa, hxa⟩ : ∃ x, xd.alloc (.cells #[.bool v, .int .i64 (B0 : Int), .int .i64 ((y - B0 : Nat) : Int), .int .i64 (z0 : Int), .int .i64 (z1 : Int)] 54) = x := ⟨_, rfl⟩
        have hra2 : xa.rangeAt xd.heap.size 0 (RuK.enc (mkR v B0 (y - B0) (z0, z1))) := by rw [← hxa]; exact hra
        rw [hxa] at hSa hHeld ⊢
        clear hra hab hxa hS
        obtain ⟨k0, k1, k2⟩ := hHeld
        have hHeld := And.intro k0 (And.intro k1 k2)
        refine' Ords.step (i := 16) (by kernel_rfl) (by simp only [List.getElem?_toArray, List.getElem?_cons_succ, List.getElem?_cons_zero]; rfl) (fun K hK => ?_)
        (refine Knd.step_app1 RuKo rfl (.tmp 45) (.tmp 60) rfl (w.heap.size + 1) u7 Lc (mkR v B0 (y - B0) (z0, z1)) xd.heap.size rfl hSa.l rfl hra2 (by omega) (Nat.le_trans (Nat.succ_le_of_lt hSa.m.lt) (Nat.le_refl _)) ?_; intro v7 w7 hO7 hg7 hat7; have hS7 := hSa.app hO7 hg7 hat7; have hneT : some gT ≠ u7.ownBlock := hneQ; have l0 := hg7.cell k0 hneT; have l1 := hg7.cell k1 hneT)
        refine hK.out _ _ ?_ (fun hHeld => ?_)
        ·exact ⟨hg7.cell k0 hneT, hg7.cell k1 hneT, hS7.m⟩
        clear hK K
        (try simp only [Act.put, Lp0, Lp1, Lp2])
        obtain ⟨w8, hdel, hM8, hg8, hz8⟩ := hdl.out w7 hS7.m 0
        replace hdel : (Builtin.delete_ #[83, 85] 0 #[.map (some w.heap.size), .agg #[.int .i64 (z0 : Int), .int .i64 (z1 : Int)]]).run Try.prog w7 = .ok (.tuple #[]) w8 := hdel
        have hS8 := hid (hfin.out v7 w8 (hS7.map hM8 hg8))
        clear hS7 hSa hM8 hg8 hz8 hO7 hg7 hat7 k0 k1 k2 hra2 hHeld
        refine' Ords.last (by kernel_rfl) (by simp only [List.getElem?_toArray, List.getElem?_cons_succ, List.getElem?_cons_zero]; rfl) (by kernel_rfl) (fun K hK => ?_)
        go_simp
        (try go_wp2_with fail)
        refine hK.out _ _ ?_
        clear hK K
        (try simp only [Act.put, Lp0, Lp1, Lp2])
        go_wp2
        go_roundw
        case rel => exact ⟨j + 1, by go_num, by omega, hS8.out⟩
        case measure => simp [intOf]; omega
       ·have h1 : (z0, z1) ∈ H := by simpa using ht
        obtain ⟨q1, q2⟩ := hin.out h1
        have hS4 := hid (hS.cast q1 q2)
        clear hS hin hout hat ht q1 q2 h1 d0 d1
        go_wp2
        go_roundw
        case rel => exact ⟨j + 1, by go_num, by omega, hS4.out⟩
        case measure => simp [intOf]; omega
      ·obtain rfl : n9 = j := by omega
       have hji : ¬ (n9 : Int) < (n9 : Int) := by omega
       have hS4 := hid (hS.cast (L' := Ac2) (f' := g3F A H bg y 0) (by rw [hacc.out, ← hoj.out, hn9.out]) (fun r => by rw [← hn9.out]; exact g23 r))
       clear hS hb_
       go_wp2
       obtain ⟨w0, hw0⟩ : ∃ w0, w0 = wr := ⟨_, rfl⟩
       subst hw0
       go_loopw [67] (fun s67 wz => ∃ j : Nat, s67 = .int .i64 (j : Int) ∧ j ≤ n1 ∧ Sw w wz u7 (.slice A9 n9 c9) (.slice A1 n1 c1) Ac2 A H (g3F A H bg y j)) (fun s67 _ => n1 - (intOf s67).toNat)
       case atStart => exact ⟨0, rfl, by omega, hS4.out⟩
       case round =>
        clear hS4
        obtain ⟨j, rfl, hj, hS⟩ := hrel
        by_cases hjn : j < n1
        ·have hji : (j : Int) < (n1 : Int) := by omega
         have hjl : j < H.length := by have := hn1.out; omega
         obtain ⟨hrd1, -⟩ := hS.h.rd2 RnKo
         obtain ⟨b, o, hA3, hc⟩ := hrd1.at_ (j := j) hjl
         have f0 : wr.cell? ⟨b, o + j * 2, none⟩ = some (.int .i64 (H[j].1 : Int)) := hc 0 _ rfl
         have f1 : wr.cell? ⟨b, o + j * 2 + 1, none⟩ = some (.int .i64 (H[j].2 : Int)) := hc 1 _ rfl
         subst hA3
         have hold := hid fun (h1 : H[j] ∈ A) => And.intro (g3_old (b := bg) (y := y) hjl h1) (fun r => g3_keep (b := bg) (y := y) hjl h1 r)
         have hnew := hid fun (h1 : H[j] ∉ A) => And.intro (g3_new (b := bg) (y := y) hHs.out hjl h1) (fun r => g3_put (b := bg) (y := y) hjl h1 r)
         generalize hzz : H[j] = z at *
         replace hzz := hid hzz
         clear hc hrd1
         obtain ⟨z0, z1⟩ := z
         dsimp only at f0 f1
         go_upto_region 20 with fail
         refine enterR (P := fun u => Code.wp _ _ _ _ u) (c := [.int .i64 (z0 : Int), .int .i64 (z1 : Int)]) ?_
         intro x hbx s0 zx hsx
         have d0 : x.cell? ⟨wr.heap.size, 0, none⟩ = some (.int .i64 (z0 : Int)) := s0 0 _ rfl
         have d1 : x.cell? ⟨wr.heap.size, 1, none⟩ = some (.int .i64 (z1 : Int)) := s0 1 _ rfl
         replace hS := hS.below hbx
         clear s0 zx hsx f0 f1 hbx
         by_cases h1 : (z0, z1) ∈ A
         ·obtain ⟨q1, q2⟩ := hold.out h1
          have hlk := hS.m.look (z0, z1) true
          rw [q1] at hlk
          replace hlk : (Instr.lookup 83 (.map (some w.heap.size)) (.agg #[.int .i64 (z0 : Int), .int .i64 (z1 : Int)]) true).run Try.prog x = .ok (.tuple #[.int .i64 ((bg (z0, z1) : Nat) : Int), .bool true]) x := hlk
          have hS6 := hid (hS.cast rfl q2)
          clear hold hnew q1 q2 hS h1
          go_wp2
          go_roundw
          case rel => exact ⟨j + 1, by go_num, by omega, hS6.out⟩
          case measure => simp [intOf]; omega
         ·obtain ⟨q1, q2⟩ := hnew.out h1
          have hlk := hS.m.look (z0, z1) true
          rw [q1] at hlk
          replace hlk : (Instr.lookup 83 (.map (some w.heap.size)) (.agg #[.int .i64 (z0 : Int), .int .i64 (z1 : Int)]) true).run Try.prog x = .ok (.tuple #[.int .i64 0, .bool false]) x := hlk
          have hMM := hS.m
          have hfin := hid fun (W : World) (h : Sw w W u7 (.slice A9 n9 c9) (.slice (some ⟨b, o, none⟩) n1 c1) Ac2 A H (updM (g3F A H bg y j) (z0, z1) (some y))) => h.cast rfl q2
          replace q1 := hid q1
          replace hS := hid hS
          clear hold hnew q2 h1
          go_wp2_with (at_mapUpdate; refine wpList_put2 rfl (.tmp 79) (.tmp 80) (.tmp 81) rfl w.heap.size (g3F A H bg y j) (z0, z1) y hMM q1.out rfl rfl rfl ?_; intro w6 hm6 hg6 hs6)
          have hS6 := hid (hfin.out w6 (hS.out.map hm6 hg6))
          clear hS hfin hm6 hg6 hs6 hMM hlk
          go_wp2
          go_roundw
          case rel => exact ⟨j + 1, by go_num, by omega, hS6.out⟩
          case measure => simp [intOf]; omega
        ·obtain rfl : n1 = j := by omega
         have hji : ¬ (n1 : Int) < (n1 : Int) := by omega
         have hS5 := hid (show Sw w wr u7 (.slice A1 n1 c1) (.slice none 0 0) (accR R h v (y + 1)) (abvR R h (y + 1)) [] (mapF R h (y + 1)) from by
          rw [hq1.out, hq2.out, hq3.out]
          have s := hS.cast (L' := Ac2) (f' := M2) rfl (fun r => by rw [← h3e.out, hn1.out])
          rw [habs.out]
          exact ⟨s.l, s.h, Knd.Own.nil _ _, s.hl, .inl rfl, s.m, s.b⟩)
         clear hS h3e hHs hAs hacc hoj hn7 hn9 hn1 habs
         go_wp2
         go_roundw
         case rel => exact ⟨y + 1, by go_num, by omega, hS5.out⟩
         case measure => simp [intOf]; omega
   ·have hli : ¬ (n7 : Int) ≤ 4096 := by omega
    have htp := hid (htop.out y hy (by have := hn7.out; omega))
    have hl8 : (accR R h v y).length ≤ 100000000 := Nat.le_trans (hacl.out y) (by omega)
    have hso := hid (SoU hS.l hl8)
    replace hl8 := hid hl8
    have hSl := hid hS.l
    have hSb := hid hS.b
    clear hF hrl hal hrs has htop hrow hn9 hS hacl
    go_wp2_with fail
    refine hso.out.mono ?_
    rintro e w1 ⟨rfl, S, hP, hQ, hO, hg⟩
    have hfin := hid (show RuK.Own w1 w.heap.size (.slice A7 n7 c7) S ∧ Below w.heap.size w w1 ∧ S.length ≤ 100000000 ∧ (S = linR R h v ∨ 4096 < S.length ∧ 4096 < (linR R h v).length) from
     ⟨hO.older (Nat.le_succ _), Knd.grown hSb.out hSl.out hg hSb.out.size (Nat.le_succ _), by rw [hP.length_eq]; exact hl8.out, .inr ⟨by rw [hP.length_eq, hn7.out]; omega, htp.out⟩⟩)
    clear hP hQ hO hg hso hSl hSb hsrt
    go_wp2
    go_ret
    exact ⟨_, S, rfl, hfin.out⟩
  ·have hyi : ¬ (y : Int) ≤ (h : Int) := by omega
   have htp := hid (show accR R h v y = accR R h v (h + 1) from by rw [show y = h + 1 by omega])
   have hl8 : (accR R h v y).length ≤ 100000000 := Nat.le_trans (hacl.out y) (by omega)
   have hso := hid (SoU hS.l hl8)
   replace hl8 := hid hl8
   have hSl := hid hS.l
   have hSb := hid hS.b
   clear hF hrl hal hrs has htop hrow hn9 hS hacl
   go_wp2_with fail
   refine hso.out.mono ?_
   rintro e w1 ⟨rfl, S, hP, hQ, hO, hg⟩
   have hfin := hid (show RuK.Own w1 w.heap.size (.slice A7 n7 c7) S ∧ Below w.heap.size w w1 ∧ S.length ≤ 100000000 ∧ (S = linR R h v ∨ 4096 < S.length ∧ 4096 < (linR R h v).length) from
    ⟨hO.older (Nat.le_succ _), Knd.grown hSb.out hSl.out hg hSb.out.size (Nat.le_succ _), by rw [hP.length_eq]; exact hl8.out, .inl (hsrt.out S (htp.out ▸ hP) (hQ.imp fun hx => not_ltR (by omega)))⟩)
   clear hP hQ hO hg hso hSl hSb hsrt
   go_wp2
   go_ret
   exact ⟨_, S, rfl, hfin.out⟩
end Go.Proofs.Ytjfgklhifhaaoaa
