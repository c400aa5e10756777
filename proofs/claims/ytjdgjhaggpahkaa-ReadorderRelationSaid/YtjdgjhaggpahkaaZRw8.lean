/- Reading order: Columns of the package. Conditions: none. -/
import Derived.Test.YtjdgjhaggpahkaaZRs5
import Derived.Test.YtjdgjhaggpahkaaZRz2
import Derived.Test.YtjdgjhaggpahkaaZRz3
set_option linter.unusedVariables false
set_option linter.unusedSimpArgs false
namespace Go.Proofs.Ytjdgjhaggpahkaa
open Go.RowKit Go.Deep
theorem infoLs : (Try.prog.info? 25).map (fun i => (i.zero, i.size, i.bytes)) = some (some (.slice none 0 0), 1, 24) := by kernel_rfl
/-- lists and an error come back -/
def RetLE (w : World) (L : List (List Nat)) (k : Int) (e : Ending) (w' : World) : Prop := ∃ v, e = .returned (.tuple #[v, .int .i64 k]) ∧ Zls w' v L ∧ Below w.heap.size w w'
/-- the indexes of D by their number -/
def colG (n : Nat) (f : Nat → Nat) (D : List Nat) : List (List Nat) := (List.range n).map fun k => D.filter fun i => f i == k
theorem colG_len (n : Nat) (f : Nat → Nat) (D : List Nat) : (colG n f D).length = n := by simp [colG]
theorem colG_at {n : Nat} {f : Nat → Nat} {D : List Nat} {k : Nat} (h : k < (colG n f D).length) : (colG n f D)[k] = D.filter fun i => f i == k := by simp [colG]
theorem colG_nil (n : Nat) (f : Nat → Nat) : colG n f [] = List.replicate n [] := by
 apply List.ext_getElem
 ·simp [colG]
 ·intro i h1 h2; simp [colG]
theorem colG_snoc {n : Nat} {f : Nat → Nat} {D : List Nat} {i : Nat} : (colG n f D).set (f i) ((D.filter fun j => f j == f i) ++ [i]) = colG n f (D ++ [i]) := by
 apply List.ext_getElem
 ·simp [colG]
 ·intro k h1 h2
  rw [List.getElem_set, colG_at, colG_at]
  by_cases e : f i = k
  ·rw [if_pos e]; subst e; simp
  ·rw [if_neg e, List.filter_append]
   simp [e]
theorem num_mono (l : List Bx) (gap : Int) (s : NumS) (i : Nat) : s.c ≤ (numStep l gap s i).c := by
 unfold numStep
 split
 ·exact Nat.le_succ _
 ·exact Nat.le_refl _
theorem num_own (l : List Bx) (gap : Int) (s : NumS) (i : Nat) : (numStep l gap s i).f i < (numStep l gap s i).c := by
 unfold numStep
 split
 ·simp [updF]
 ·rename_i h
  have : s.c ≠ 0 := fun e => h (.inl e)
  simp [updF]; omega
theorem num_other (l : List Bx) (gap : Int) (s : NumS) {i j : Nat} (h : j ≠ i) : (numStep l gap s i).f j = s.f j := by
 unfold numStep
 split <;> simp [updF, h]
theorem num_lt (l : List Bx) (gap : Int) : ∀ (O : List Nat) (s : NumS), (∀ j, (j ∈ O ∨ s.f j < s.c) → (O.foldl (numStep l gap) s).f j < (O.foldl (numStep l gap) s).c)
 | [], s, j, h => by
  rcases h with h | h
  ·cases h
  ·exact h
 | i :: O, s, j, h => by
  rw [List.foldl_cons]
  refine num_lt l gap O _ j ?_
  by_cases e : j = i
  ·subst e; exact .inr (num_own l gap s j)
  ·rcases h with h | h
   ·rcases List.mem_cons.1 h with h | h
    ·exact absurd h e
    ·exact .inl h
   ·exact .inr (by rw [num_other l gap s e]; exact Nat.lt_of_lt_of_le h (num_mono l gap s i))
theorem num_le (l : List Bx) (gap : Int) : ∀ (O : List Nat) (s : NumS), (O.foldl (numStep l gap) s).c ≤ s.c + O.length
 | [], s => Nat.le_refl _
 | i :: O, s => by
  rw [List.foldl_cons]
  have h1 := num_le l gap O (numStep l gap s i)
  have h2 : (numStep l gap s i).c ≤ s.c + 1 := by unfold numStep; split <;> simp
  simp only [List.length_cons]; omega
/-- what the package's Columns returns, under an order by the left edges -/
def colP (l : List Bx) (gap : Int) (O : List Nat) : List (List Nat) := if chkB l gap = 0 then colG (numS l gap O).c (numS l gap O).f (dwnB l) else []
def RetCol (l : List Bx) (gap : Int) (n : Nat) (w : World) (e : Ending) (w' : World) : Prop := ∃ O : List Nat, O.Perm (List.range n) ∧ SrtX l O ∧ RetLE w (colP l gap O) (chkB l gap) e w'
theorem srt_some (l : List Bx) : ∃ O : List Nat, O.Perm (List.range l.length) ∧ SrtX l O := by
 refine ⟨(List.range l.length).mergeSort fun i k => decide ((l.getD i default).x ≤ (l.getD k default).x), List.mergeSort_perm _ _, ?_⟩
 have h := List.pairwise_mergeSort (le := fun i k => decide ((l.getD i default).x ≤ (l.getD k default).x)) (fun a b c h1 h2 => by simp at *; omega) (fun a b => by simp; omega) (List.range l.length)
 exact h.imp fun h => by simpa using h
set_option maxRecDepth 100000 in
set_option maxHeartbeats 16000000 in
theorem GCol_g (l : List Bx) (A : Option Addr) (c : Nat) (gap : Int) {w : World} (hl : Qb w A c l) :
  Calls Try.prog 17 #[.slice A l.length c, .int .i64 gap] w (RetCol l gap l.length w) := by
 obtain ⟨n, hn⟩ : ∃ n, l.length = n := ⟨_, rfl⟩
 obtain ⟨k, hk⟩ : ∃ k, chkB l gap = k := ⟨_, rfl⟩
 have HK := hid (show Calls Try.prog 26 #[.slice A n c, .int .i64 gap] w (RetI w k) from by rw [← hk, ← hn]; exact Gchk_g l A c gap hl)
 have E1 := hid fun (h : k ≠ 0) (w' : World) (hb : Below w.heap.size w w') => (show RetCol l gap n w (.returned (.tuple #[.slice none 0 0, .int .i64 k])) w' from by
  obtain ⟨O, h1, h2⟩ := srt_some l
  refine ⟨O, hn ▸ h1, h2, ⟨_, by rw [hk], ?_, hb⟩⟩
  unfold colP
  rw [hk, if_neg h]
  exact Zls.nil _)
 have E0 := hid fun (h : k = 0) => chk0 (hk.trans h)
 have hfin := hid fun (h : k = 0) (O : List Nat) (v : Value) (w' : World) (h1 : O.Perm (List.range n)) (h2 : SrtX l O) (hz : Zls w' v (colG (numS l gap O).c (numS l gap O).f (dwnB l))) (hb : Below w.heap.size w w') => (show RetCol l gap n w (.returned (.tuple #[v, .int .i64 0])) w' from
  ⟨O, h1, h2, ⟨v, by rw [hk, h], by unfold colP; rw [hk, if_pos h]; exact hz, hb⟩⟩)
 have HN := hid fun (h : k = 0) (W : World) (hb : Below w.heap.size w W) => (show Calls Try.prog 31 #[.slice A n c, .int .i64 gap] W (RetNum l gap n W) from by
  obtain ⟨q1, q2, q3, q4⟩ := chk0 (hk.trans h)
  rw [← hn]; exact GNum_g l A c gap (hl.below hb) q1 q4 q2 q3)
 have HD := hid fun (h : k = 0) (W : World) (hb : Below w.heap.size w W) => (show Calls Try.prog 32 #[.slice A n c] W (RetRow W (dwnB l)) from by
  rw [← hn]; exact GDwn_g l A c (hl.below hb) (chk0 (hk.trans h)).1)
 have cc := Nat.le_trans hl.cap hl.max
 rw [hn] at cc ⊢
 replace hn := hid hn
 clear hl hk
 go_enter Try.func17, Try.ntmps17
 go_wp2_with fail
 refine HK.out.mono ?_
 rintro e w1 ⟨rfl, HB⟩
 clear HK
 by_cases hk0 : k = 0
 ·obtain ⟨h4, hg0, hg1, _⟩ := E0.out hk0
  rw [hn.out] at h4
  replace HN := hid (HN.out hk0)
  replace HD := hid (HD.out hk0)
  replace hfin := hid (hfin.out hk0)
  clear E1 E0
  subst hk0
  go_wp2_with fail
  refine (HN.out w1 HB).mono ?_
  rintro e w2 ⟨O, gf, hP, hS, rfl, hgf, hrf, hb2⟩
  have HB2 := bel_step HB hb2
  have hgf2 := Nat.le_trans HB.size hgf
  have hgl := hrf.lt
  obtain ⟨cn, hcn⟩ : ∃ z, (numS l gap O).c = z := ⟨_, rfl⟩
  obtain ⟨f, hf⟩ : ∃ z, (numS l gap O).f = z := ⟨_, rfl⟩
  have hcl : cn ≤ n := by
   have := num_le l gap O ⟨0, 0, fun _ => 0⟩
   rw [show (O.foldl (numStep l gap) ⟨0, 0, fun _ => 0⟩).c = cn from hcn, hP.length_eq] at this
   simpa using this
  have hfl := hid fun (j : Nat) (hj : j < n) => (show f j < cn from by
   have := num_lt l gap O ⟨0, 0, fun _ => 0⟩ j (.inl (hP.mem_iff.2 (List.mem_range.2 hj)))
   rw [show (O.foldl (numStep l gap) ⟨0, 0, fun _ => 0⟩).c = cn from hcn, show (O.foldl (numStep l gap) ⟨0, 0, fun _ => 0⟩).f = f from hf] at this
   exact this)
  replace hfin := hid (hfin.out O)
  rw [hcn, hf] at hfin
  rw [hcn]
  rw [hf] at hrf
  replace hfin := hid fun (v : Value) (w' : World) => hfin.out v w' hP hS
  have hmk := run_make_row' (P := Try.prog) 33 25 (.slice none 0 0) 24 Try.underlying33 infoLs rfl .i64 .i64 cn (by omega) (by omega)
  have hG0 : ∀ B2, Grps (w2.alloc (.cells (madeCells #[.slice none 0 0] cn) 25)) w2.heap.size B2 25 (.slice (some ⟨w2.heap.size, 0, none⟩) cn cn) (List.replicate cn (.slice none 0 0)) (List.replicate cn []) := by
   have h0 := World.ownsRow_lit (e := 25) (size := 1) w2 (madeCells #[.slice none 0 0] cn) cn (Nat.le_refl _) (by unfold maxLen; omega) (by rw [size_madeCells, Nat.mul_one])
   rw [toList_madeCells_one] at h0
   exact fun B2 => ⟨by rw [List.length_replicate]; exact h0, by simp, fun j h1 h2 => by simp only [List.getElem_replicate]; exact OwnZ.nil _ _, fun j k h1 h2 _ => .inl (by simp only [List.getElem_replicate]; rfl), fun j h1 => .inl (by simp only [List.getElem_replicate]; rfl)⟩
  have hb3 : Below w2.heap.size w2 (w2.alloc (.cells (madeCells #[.slice none 0 0] cn) 25)) := (Below.refl _ _).alloc (Nat.le_refl _) _
  have hz3 : (w2.alloc (.cells (madeCells #[.slice none 0 0] cn) 25)).heap.size = w2.heap.size + 1 := by simp
  clear HN hP hS hcn hf
  go_wp2_with fail
  obtain ⟨w3, hw3⟩ : ∃ w3, w2.alloc (.cells (madeCells #[.slice none 0 0] cn) 25) = w3 := ⟨_, rfl⟩
  rw [hw3] at hG0 hb3 hz3 ⊢
  clear hw3 hmk
  have HB3 := HB2.trans (hb3.mono HB2.size)
  refine (HD.out w3 HB3).mono ?_
  rintro e w4 ⟨v, rfl, hR, hb4⟩
  have HB4 := bel_step HB3 hb4
  have hbo := hb3.trans (hb4.mono hb3.size)
  have hrf4 : w4.rowIs gf 3 n (fun j => intV (f j)) := hrf.of_block (hbo.block gf hgl)
  have hrf4k := hid (hbo.block gf hgl)
  have hG4 := (hG0 w4.heap.size).below hb4
  obtain ⟨D, hD⟩ : ∃ D, dwnB l = D := ⟨_, rfl⟩
  have hDl := hid (show D.length = n from by rw [← hD, dwnB_len]; exact hn.out)
  have hDlt := hid fun (i : Nat) (hi : i < D.length) => (show D[i] < n from by
   have h1 : D[i] ∈ dwnB l := hD ▸ List.getElem_mem hi
   rw [dwnB_lt] at h1
   have := hn.out; omega)
  rw [hD] at hR hfin
  have hRc := hid fun (W : World) (hk : ∀ b, w3.heap.size ≤ b → b < w4.heap.size → W.heap[b]? = w4.heap[b]?) (i : Nat) (hi : i < D.length) => (show ∃ A2 c2 g2, v = .slice (some ⟨g2, 0, none⟩) n c2 ∧ A2 = some g2 ∧ W.cell? ⟨g2, i, none⟩ = some (.int .i64 (D[i] : Int)) from by
   rcases hR with ⟨h, _⟩ | ⟨g2, c2, h0, e1, h1, h2, h3, h5, h6, h7⟩
   ·subst h; simp at hi
   ·refine ⟨some g2, c2, g2, by rw [e1, hDl.out], rfl, ?_⟩
    rw [World.cell?_of_block (a := ⟨g2, i, none⟩) (hk g2 h1 h2)]
    have := h6 i hi
    rw [Nat.zero_add] at this
    exact this)
  have hz4 := hb4.size
  obtain ⟨Av, cv, hv, _, _⟩ := hR.zs.form
  rw [hDl.out] at hv
  subst hv
  replace hD := hid hD
  rw [← colG_nil cn f] at hG4
  clear HD hrf hG0 hb3 hb4 HB3 hR
  go_wp2
  go_loopw [29] (fun s29 wr => ∃ (i : Nat) (vs : List Value), s29 = .int .i64 (i : Int) ∧ i ≤ n ∧ Grps wr w2.heap.size w4.heap.size 25 (.slice (some ⟨w2.heap.size, 0, none⟩) cn cn) vs (colG cn f (D.take i)) ∧ (∀ b, w3.heap.size ≤ b → b < w4.heap.size → wr.heap[b]? = w4.heap[b]?) ∧ Below w2.heap.size w2 wr ∧ w4.heap.size ≤ wr.heap.size) (fun s29 _ => n - (intOf s29).toNat)
  case atStart => exact ⟨0, _, rfl, by omega, hG4, fun _ _ _ => rfl, hbo, Nat.le_refl _⟩
  case round =>
   clear hG4 hbo
   obtain ⟨i, vs, rfl, hi, hG, hk, hbo, hz⟩ := hrel
   by_cases hin : i < n
   ·have hii : (i : Int) < (n : Int) := by omega
    have hil : i < D.length := by have := hDl.out; omega
    obtain ⟨A2, c2, g2, hv, _, co⟩ := hRc.out wr hk i hil
    have hjn := hDlt.out i hil
    have hst : D.take (i + 1) = D.take i ++ [D[i]] := List.take_succ_eq_append_getElem hil
    obtain ⟨j, hj⟩ : ∃ j, D[i] = j := ⟨_, rfl⟩
    rw [hj] at co hjn hst
    injection hv with hv1 hv2 hv3
    subst hv1 hv3
    have hrf5 : wr.rowIs gf 3 n (fun j => intV (f j)) := hrf4.of_block ((hbo.block gf hgl).trans hrf4k.out.symm)
    have c0 := hrf5.cell hjn
    have hfj := hfl.out j hjn
    have hvl : vs.length = cn := by rw [hG.len, colG_len]
    have hkv : f j < vs.length := by omega
    have c1 : wr.cell? ⟨w2.heap.size, f j, none⟩ = some vs[f j] := by
     rw [World.ownsRow.cellAt (hvl ▸ hG.out) (f j) (by omega)]
     simp [hkv]
    have hOk := hG.own (f j) hkv (by rw [← hG.len]; exact hkv)
    rw [colG_at] at hOk
    have hLl : ((D.take i).filter fun x => f x == f j).length ≤ 1000000 := Nat.le_trans (List.length_filter_le _ _) (by rw [List.length_take]; omega)
    have hset : (colG cn f (D.take i)).set (f j) (((D.take i).filter fun x => f x == f j) ++ [j]) = colG cn f (D.take (i + 1)) := by rw [hst]; exact colG_snoc
    unfold intV at c0
    obtain ⟨Lk, hLk⟩ : ∃ z, ((D.take i).filter fun x => f x == f j) = z := ⟨_, rfl⟩
    obtain ⟨k, hk'⟩ : ∃ z, f j = z := ⟨_, rfl⟩
    rw [hLk] at hOk hLl hset
    have happ := hid fun (w6 w7 : World) (u' : Value) (h6 : Grps w6 w2.heap.size w4.heap.size 25 (.slice (some ⟨w2.heap.size, 0, none⟩) cn cn) vs (colG cn f (D.take i))) (hO : OwnZ w7 w4.heap.size u' (Lk ++ [j])) (hg : w6.grownBy w7 vs[f j].ownBlock) (hat : u'.ownBlock = vs[f j].ownBlock ∨ u'.ownBlock = some w6.heap.size) => (show Grps (w7.setCell ⟨w2.heap.size, f j, none⟩ u') w2.heap.size w4.heap.size 25 (.slice (some ⟨w2.heap.size, 0, none⟩) cn cn) (vs.set (f j) u') (colG cn f (D.take (i + 1))) from by rw [← hset]; exact h6.app hkv hO hg hat)
    have hfar := hid (hG.far (f j) hkv)
    generalize vs[f j] = u at *
    rw [hk'] at c0 c1 happ hfj
    have hkk : (k : Int) < (cn : Int) := by omega
    have hjj : (j : Int) < (n : Int) := by omega
    have hub : ∀ x, u.ownBlock = some x → w4.heap.size ≤ x ∧ x < wr.heap.size := fun x hx => hOk.lt hx
    replace hub := hid hub
    have hltg := hbo.size
    replace hset := hid hset
    replace hLk := hid hLk
    replace hk' := hid hk'
    have hvl7 := hid hvl
    clear hRc hfl hvl hkv
    go_upto_region 9 with fail
    refine Ords.start (x := 16) (S := fun w' => w'.cell? ⟨gf, j, none⟩ = some (.int .i64 (k : Int)) ∧ w'.cell? ⟨w2.heap.size, k, none⟩ = some u) (by kernel_rfl) ?_ (fun hHeld => ?_)
    ·exact ⟨c0, c1⟩
    have hdb : Below wr.heap.size wr wr.drew := (Below.refl _ _).drew
    generalize wr.drew = wd at hdb hHeld ⊢
    have hOd := hOk.below hdb
    have hGd := hG.below hdb
    have hbd : Below w2.heap.size w2 wd := hbo.trans (hdb.mono hltg)
    have hkd : ∀ b, w3.heap.size ≤ b → b < w4.heap.size → wd.heap[b]? = w4.heap[b]? := fun b h1 h2 => (hdb.block b (by omega)).trans (hk b h1 h2)
    have hzd := hdb.size
    have c0 := keep_cell hdb c0
    have c1 := keep_cell hdb c1
    have hOx := hOd.below ((Below.refl _ _).alloc (Nat.le_refl _) (.cells #[.int .i64 (j : Int)] 3))
    have hGx := hGd.below ((Below.refl _ _).alloc (Nat.le_refl _) (.cells #[.int .i64 (j : Int)] 3))
    have hbx := hbd.alloc (by omega) (.cells #[.int .i64 (j : Int)] 3)
    have hkx : ∀ b, w3.heap.size ≤ b → b < w4.heap.size → (wd.alloc (.cells #[.int .i64 (j : Int)] 3)).heap[b]? = w4.heap[b]? := fun b h1 h2 => (heap_alloc_old wd _ (by omega)).trans (hkd b h1 h2)
    have d0 := keep_alloc (b := .cells #[.int .i64 (j : Int)] 3) c0
    have d1 := keep_alloc (b := .cells #[.int .i64 (j : Int)] 3) c1
    have hzx : w4.heap.size ≤ (wd.alloc (.cells #[.int .i64 (j : Int)] 3)).heap.size := by simp; omega
    have hat0 : (wd.alloc (.cells #[.int .i64 (j : Int)] 3)).cell? ⟨wd.heap.size, 0, none⟩ = some (.int .i64 (j : Int)) := at_one rfl
    refine' Ords.take (i := 0) ?_ ?_ ?_ ?_ ?_ ?_ ?_ ?_ ?_
    rotate_left 2
    ·(simp only [List.getElem?_toArray, List.getElem?_cons_succ, List.getElem?_cons_zero]; rfl)
    ·kernel_rfl
    ·kernel_rfl
    ·kernel_rfl
    ·kernel_rfl
    ·exact fun _ _ _ h => h
    ·(refine Or.inl ⟨by rfl, ?_⟩; intro w_ hSw_; (try dsimp only at hSw_); go_simp; (try with_reducible rfl))
    ·assumption
    (try simp only [Act.put, Lp0, Lp1, Lp2])
    refine' Ords.take (i := 1) ?_ ?_ ?_ ?_ ?_ ?_ ?_ ?_ ?_
    rotate_left 2
    ·(simp only [List.getElem?_toArray, List.getElem?_cons_succ, List.getElem?_cons_zero]; rfl)
    ·kernel_rfl
    ·kernel_rfl
    ·kernel_rfl
    ·kernel_rfl
    ·exact fun _ _ _ h => h
    ·(refine Or.inl ⟨by rfl, ?_⟩; intro w_ hSw_; (try dsimp only at hSw_); go_simp; (try with_reducible rfl))
    ·assumption
    (try simp only [Act.put, Lp0, Lp1, Lp2])
    refine' Ords.take (i := 2) ?_ ?_ ?_ ?_ ?_ ?_ ?_ ?_ ?_
    rotate_left 2
    ·(simp only [List.getElem?_toArray, List.getElem?_cons_succ, List.getElem?_cons_zero]; rfl)
    ·kernel_rfl
    ·kernel_rfl
    ·kernel_rfl
    ·kernel_rfl
    ·exact fun _ _ _ h => h
    ·(refine Or.inl ⟨by rfl, ?_⟩; intro w_ hSw_; (try dsimp only at hSw_); go_simp; (try with_reducible rfl))
    ·assumption
    (try simp only [Act.put, Lp0, Lp1, Lp2])
    refine' Ords.take (i := 3) ?_ ?_ ?_ ?_ ?_ ?_ ?_ ?_ ?_
    rotate_left 2
    ·(simp only [List.getElem?_toArray, List.getElem?_cons_succ, List.getElem?_cons_zero]; rfl)
    ·kernel_rfl
    ·kernel_rfl
    ·kernel_rfl
    ·kernel_rfl
    ·exact fun _ _ _ h => h
    ·(refine Or.inl ⟨by rfl, ?_⟩; intro w_ hSw_; (try dsimp only at hSw_); go_simp; (try with_reducible rfl))
    ·assumption
    (try simp only [Act.put, Lp0, Lp1, Lp2])
    refine' Ords.take (i := 4) ?_ ?_ ?_ ?_ ?_ ?_ ?_ ?_ ?_
    rotate_left 2
    ·(simp only [List.getElem?_toArray, List.getElem?_cons_succ, List.getElem?_cons_zero]; rfl)
    ·kernel_rfl
    ·kernel_rfl
    ·kernel_rfl
    ·kernel_rfl
    ·exact fun _ _ _ h => h
    ·(refine Or.inl ⟨by rfl, ?_⟩; intro w_ hSw_; (try dsimp only at hSw_); go_simp; (try with_reducible rfl))
    ·assumption
    (try simp only [Act.put, Lp0, Lp1, Lp2])
    refine' Ords.take (i := 5) ?_ ?_ ?_ ?_ ?_ ?_ ?_ ?_ ?_
    rotate_left 2
    ·(simp only [List.getElem?_toArray, List.getElem?_cons_succ, List.getElem?_cons_zero]; rfl)
    ·kernel_rfl
    ·kernel_rfl
    ·kernel_rfl
    ·kernel_rfl
    ·exact fun _ _ _ h => h
    ·(refine Or.inl ⟨by rfl, ?_⟩; intro w_ hSw_; (try dsimp only at hSw_); go_simp; (try with_reducible rfl))
    ·assumption
    (try simp only [Act.put, Lp0, Lp1, Lp2])
    refine' Ords.take (i := 6) ?_ ?_ ?_ ?_ ?_ ?_ ?_ ?_ ?_
    rotate_left 2
    ·(simp only [List.getElem?_toArray, List.getElem?_cons_succ, List.getElem?_cons_zero]; rfl)
    ·kernel_rfl
    ·kernel_rfl
    ·kernel_rfl
    ·kernel_rfl
    ·exact fun _ _ _ h => h
    ·(refine Or.inl ⟨by rfl, ?_⟩; intro w_ hSw_; (try dsimp only at hSw_); go_simp; (try with_reducible rfl))
    ·assumption
    (try simp only [Act.put, Lp0, Lp1, Lp2])
    refine' Ords.take (i := 7) ?_ ?_ ?_ ?_ ?_ ?_ ?_ ?_ ?_
    rotate_left 2
    ·(simp only [List.getElem?_toArray, List.getElem?_cons_succ, List.getElem?_cons_zero]; rfl)
    ·kernel_rfl
    ·kernel_rfl
    ·kernel_rfl
    ·kernel_rfl
    ·exact fun _ _ _ h => h
    ·(refine Or.inl ⟨by rfl, ?_⟩; intro w_ hSw_; (try dsimp only at hSw_); go_simp; (try with_reducible rfl))
    ·assumption
    (try simp only [Act.put, Lp0, Lp1, Lp2])
    refine' Ords.take (i := 8) ?_ ?_ ?_ ?_ ?_ ?_ ?_ ?_ ?_
    rotate_left 2
    ·(simp only [List.getElem?_toArray, List.getElem?_cons_succ, List.getElem?_cons_zero]; rfl)
    ·kernel_rfl
    ·kernel_rfl
    ·kernel_rfl
    ·kernel_rfl
    ·exact fun _ _ _ h => h
    ·(refine Or.inl ⟨by rfl, ?_⟩; intro w_ hSw_; (try dsimp only at hSw_); go_simp; (try with_reducible rfl))
    ·assumption
    (try simp only [Act.put, Lp0, Lp1, Lp2])
    refine' Ords.take (i := 9) ?_ ?_ ?_ ?_ ?_ ?_ ?_ ?_ ?_
    rotate_left 2
    ·(simp only [List.getElem?_toArray, List.getElem?_cons_succ, List.getElem?_cons_zero]; rfl)
    ·kernel_rfl
    ·kernel_rfl
    ·kernel_rfl
    ·kernel_rfl
    ·exact fun _ _ _ h => h
    ·(refine Or.inl ⟨by rfl, ?_⟩; intro w_ hSw_; (try dsimp only at hSw_); go_simp; (try with_reducible rfl))
    ·assumption
    (try simp only [Act.put, Lp0, Lp1, Lp2])
    refine' Ords.take (i := 10) ?_ ?_ ?_ ?_ ?_ ?_ ?_ ?_ ?_
    rotate_left 2
    ·(simp only [List.getElem?_toArray, List.getElem?_cons_succ, List.getElem?_cons_zero]; rfl)
    ·kernel_rfl
    ·kernel_rfl
    ·kernel_rfl
    ·kernel_rfl
    ·exact fun _ _ _ h => h
    ·(refine Or.inl ⟨by rfl, ?_⟩; intro w_ hSw_; (try dsimp only at hSw_); go_simp; (try with_reducible rfl))
    ·assumption
    (try simp only [Act.put, Lp0, Lp1, Lp2])
    refine' Ords.take (i := 11) ?_ ?_ ?_ ?_ ?_ ?_ ?_ ?_ ?_
    rotate_left 2
    ·(simp only [List.getElem?_toArray, List.getElem?_cons_succ, List.getElem?_cons_zero]; rfl)
    ·kernel_rfl
    ·kernel_rfl
    ·kernel_rfl
    ·kernel_rfl
    ·exact fun _ _ _ h => h
    ·(refine Or.inl ⟨by rfl, ?_⟩; intro w_ hSw_; (try dsimp only at hSw_); go_simp; (try with_reducible rfl))
    ·assumption
    (try simp only [Act.put, Lp0, Lp1, Lp2])
    refine' Ords.take (i := 12) ?_ ?_ ?_ ?_ ?_ ?_ ?_ ?_ ?_
    rotate_left 2
    ·(simp only [List.getElem?_toArray, List.getElem?_cons_succ, List.getElem?_cons_zero]; rfl)
    ·kernel_rfl
    ·kernel_rfl
    ·kernel_rfl
    ·kernel_rfl
    ·exact fun _ _ _ h => h
    ·(refine Or.inl ⟨by rfl, ?_⟩; intro w_ hSw_; (try dsimp only at hSw_); go_simp; (try with_reducible rfl))
    ·assumption
    (try simp only [Act.put, Lp0, Lp1, Lp2])
    refine' Ords.step (i := 13) (by kernel_rfl) (by simp only [List.getElem?_toArray, List.getElem?_cons_succ, List.getElem?_cons_zero]; rfl) (fun K hK => ?_)
    go_simp
    skip
    (try go_wp2_with fail)
    refine hK.out _ _ ?_ (fun hHeld => ?_)
    ·exact ⟨d0, d1⟩
    clear hK K
    (try simp only [Act.put, Lp0, Lp1, Lp2])
    generalize wd.alloc (.cells #[.int .i64 (j : Int)] 3) = wx at *
    clear hOd hGd hbd hkd c0 c1 hG hOk hdb hbo hk
    refine' Ords.step (i := 14) (by kernel_rfl) (by simp only [List.getElem?_toArray, List.getElem?_cons_succ, List.getElem?_cons_zero]; rfl) (fun K hK => ?_)
    (refine step_app1 rfl (.tmp 44) (.tmp 46) rfl w4.heap.size u Lk j wd.heap.size rfl hOx rfl hat0 hLl hzx ?_; intro u' w7 hO7 hg7 hat7; have hneg : some gf ≠ u.ownBlock := (fun e => by have := (hub.out gf e.symm).1; omega); have hneo : some w2.heap.size ≠ u.ownBlock := (fun e => by have := (hub.out w2.heap.size e.symm).1; omega); have e0 := hg7.cell d0 hneg; have e1 := hg7.cell d1 hneo)
    refine hK.out _ _ ?_ (fun hHeld => ?_)
    ·exact ⟨e0, e1⟩
    clear hK K
    (try simp only [Act.put, Lp0, Lp1, Lp2])
    refine' Ords.take (i := 15) ?_ ?_ ?_ ?_ ?_ ?_ ?_ ?_ ?_
    rotate_left 2
    ·(simp only [List.getElem?_toArray, List.getElem?_cons_succ, List.getElem?_cons_zero]; rfl)
    ·kernel_rfl
    ·kernel_rfl
    ·kernel_rfl
    ·kernel_rfl
    ·exact fun _ _ _ h => h
    ·(refine Or.inl ⟨by rfl, ?_⟩; intro w_ hSw_; (try dsimp only at hSw_); go_simp; (try with_reducible rfl))
    ·assumption
    (try simp only [Act.put, Lp0, Lp1, Lp2])
    have hox : w2.heap.size < wx.heap.size := by omega
    have hfz : w7.frozen? ⟨w2.heap.size, k, none⟩ = false := (World.frozen?_of_block (a := ⟨w2.heap.size, k, none⟩) (hg7.block _ hox hneo)).trans (by have := hGx.out; rw [hvl7.out] at this; exact World.ownsRow.frozenAt this k)
    have hres := hid (happ.out wx w7 u' hGx hO7 hg7 hat7)
    have hb8 := hid (below_set (Below.grown hbx hg7 (by omega) (fun b e => by have := (hub.out b e).1; omega)) (Nat.le_refl _) k u')
    have hk8 := hid (show ∀ b, w3.heap.size ≤ b → b < w4.heap.size → (w7.setCell ⟨w2.heap.size, k, none⟩ u').heap[b]? = w4.heap[b]? from fun b h1 h2 => (blk_setCell_other _ _ _ _ (by dsimp only; omega)).trans ((hg7.block b (by omega) (fun e => by have := (hub.out b e.symm).1; omega)).trans (hkx b h1 h2)))
    have hz8 := hid (show w4.heap.size ≤ (w7.setCell ⟨w2.heap.size, k, none⟩ u').heap.size from by rw [World.size_setCell]; have := hg7.size; omega)
    obtain ⟨A7, c7, hu7⟩ := hO7.form
    obtain ⟨m7, hm7⟩ : ∃ z, (Lk ++ [j]).length = z := ⟨_, rfl⟩
    rw [hm7] at hu7
    subst hu7
    have lt7 := cell_lt e1
    clear hm7 hO7 hg7 hat7 hneg hneo hGx hbx hkx hzx d0 d1 hOx
    refine' Ords.last (by kernel_rfl) (by simp only [List.getElem?_toArray, List.getElem?_cons_succ, List.getElem?_cons_zero]; rfl) (by kernel_rfl) (fun K hK => ?_)
    go_simp
    (try go_wp2_with fail)
    refine hK.out _ _ ?_
    clear hK K
    (try simp only [Act.put, Lp0, Lp1, Lp2])
    go_wp2
    go_roundw
    case rel => exact ⟨i + 1, _, by go_num, by omega, hres.out, hk8.out, hb8.out, hz8.out⟩
    case measure => simp [intOf]; omega
   ·obtain rfl : i = n := by omega
    have hii : ¬ (i : Int) < (i : Int) := by omega
    rw [List.take_of_length_le (by have := hDl.out; omega)] at hG
    have hres := hid (hfin.out _ wr hG.zls (HB2.trans (hbo.mono HB2.size)))
    clear hG hk hbo hRc
    go_wp2
    refine bodyPost_ret (v := .tuple #[.slice (some ⟨w2.heap.size, 0, none⟩) cn cn, .int .i64 0]) ?_ rfl ?_
    ·simp [results, Try.results17, go_sem]
    ·exact hres.out
 ·have E2 := hid (E1.out hk0 w1 HB)
  clear E1 E0 HN HD hfin
  go_wp2
  refine bodyPost_ret (v := .tuple #[.slice none 0 0, .int .i64 k]) ?_ rfl ?_
  ·simp [results, Try.results17, go_sem]
  ·exact E2.out
end Go.Proofs.Ytjdgjhaggpahkaa
