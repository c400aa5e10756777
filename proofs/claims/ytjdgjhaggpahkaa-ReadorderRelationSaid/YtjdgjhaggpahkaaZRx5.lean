/- Reading order: Columns of the reference. Conditions: none. -/
import Derived.Test.YtjdgjhaggpahkaaZRx4
import Derived.Test.YtjdgjhaggpahkaaZNr6
set_option linter.unusedVariables false
set_option linter.unusedSimpArgs false
namespace Go.Proofs.Ytjdgjhaggpahkaa
open Go.RowKit Go.Deep
/-- the columns, told once -/
noncomputable def colC (l : List Bx) (gap : Int) : List (List Nat) := colP l gap (Classical.choose (srt_some l))
theorem hg_of {l : List Bx} {gap : Int} (h : chkB l gap = 0) : 0 ≤ gap ∧ ∀ i ∈ List.range l.length, bX l i < bR l i := by
 obtain ⟨h1, h2, h3, h4⟩ := chk0 h
 refine ⟨h2, fun i hi => ?_⟩
 have hi := List.mem_range.1 hi
 have := okB_b (h4 (l.getD i default) (by simp [hi]))
 unfold bX bR
 omega
theorem colC_of {l : List Bx} {gap : Int} {Ls : List (List Nat)} (h : chkB l gap = 0) (hs : Split l gap (List.range l.length) Ls) : colC l gap = Ls := by
 obtain ⟨h1, h2⟩ := Classical.choose_spec (srt_some l)
 unfold colC colP
 rw [if_pos h]
 exact split_unique (hg_of h).1 _ _ _ List.nodup_range (hg_of h).2 (colG_split l gap h1 h2) hs
theorem colC_bad {l : List Bx} {gap : Int} (h : chkB l gap ≠ 0) : colC l gap = [] := by unfold colC colP; rw [if_neg h]
theorem GCol_c (l : List Bx) (A : Option Addr) (c : Nat) (gap : Int) {w : World} (hl : Qb w A c l) :
  Calls Try.prog 17 #[.slice A l.length c, .int .i64 gap] w (RetLE w (colC l gap) (chkB l gap)) := by
 refine (GCol_g l A c gap hl).mono ?_
 rintro e w' ⟨O, h1, h2, h3⟩
 have : colC l gap = colP l gap O := by
  by_cases h : chkB l gap = 0
  ·rw [colC_of h (colG_split l gap h1 h2)]; unfold colP; rw [if_pos h]
  ·rw [colC_bad h]; unfold colP; rw [if_neg h]
 rw [this]
 exact h3
theorem flat_len : ∀ (Ls : List (List Nat)), (∀ C ∈ Ls, C ≠ []) → Ls.length ≤ Ls.flatten.length
 | [], _ => Nat.le_refl _
 | C :: Ls, h => by
  have h1 := flat_len Ls (fun D hD => h D (by simp [hD]))
  have h2 := List.length_pos_iff.2 (h C (by simp))
  rw [List.flatten_cons, List.length_append, List.length_cons]
  omega
/-- what another block's store leaves -/
theorem Grps.keptB {w w' : World} {B : Nat} {e : TypeId} {v : Value} {vs : List Value} {Ls : List (List Nat)} (h : Grps w B B e v vs Ls) (hb : ∀ k, B ≤ k → w'.heap[k]? = w.heap[k]?) : Grps w' B B e v vs Ls := by
 refine ⟨⟨h.out.1, ?_⟩, h.len, fun j h1 h2 => (h.own j h1 h2).kept fun k hk => hb k ((h.own j h1 h2).lt hk).1, h.apart, h.far⟩
 rcases h.out.2 with h2 | ⟨g, cap, cur, hv, hg, hh, r⟩
 ·exact .inl h2
 ·exact .inr ⟨g, cap, cur, hv, hg, (hb g hg).trans hh, r⟩
theorem Apart.new {w : World} {B : Nat} {e : TypeId} {v u : Value} {vs : List Value} {Ls : List (List Nat)} (h : Grps w B B e v vs Ls) (hu : ∀ x, u.ownBlock = some x → w.heap.size ≤ x) : Apart v u vs := by
 cases hq : u.ownBlock with
 | none => exact .inl hq
 | some x =>
  have hx := hu x hq
  refine .inr ⟨fun j hj e => ?_, fun e => ?_⟩
  ·rw [hq] at e
   have := ((h.own j hj (h.len ▸ hj)).lt e.symm).2
   omega
  ·rw [hq] at e
   have := (h.lt e.symm).2
   omega
theorem own_lit (w : World) (i : Nat) {B : Nat} (hB : B ≤ w.heap.size) : OwnZ (w.alloc (.cells #[.int .i64 (i : Int)] 3)) B (.slice (some ⟨w.heap.size, 0, none⟩) 1 1) [i] := by
 have h := World.ownsRow_lit (e := 3) (size := 1) w #[.int .i64 (i : Int)] 1 hB (by unfold maxLen; omega) (by simp)
 exact h
theorem row_alloc {w : World} {b n : Nat} {t : TypeId} {f : Nat → Value} (h : w.rowIs b t n f) (o : Obj) : (w.alloc o).rowIs b t n f := h.alloc o
theorem row_grown {w w' : World} {b n : Nat} {t : TypeId} {f : Nat → Value} {row : Option Nat} (h : w.rowIs b t n f) (hg : w.grownBy w' row) (hne : some b ≠ row) : w'.rowIs b t n f := h.of_block (hg.block b h.lt hne)
set_option maxRecDepth 100000 in
set_option maxHeartbeats 16000000 in
theorem RCol_g (l : List Bx) (A : Option Addr) (c : Nat) (gap : Int) {w : World} (hl : Qb w A c l) :
  Calls Try.prog 18 #[.slice A l.length c, .int .i64 gap] w (RetLE w (colC l gap) (chkB l gap)) := by
 obtain ⟨n, hn⟩ : ∃ n, l.length = n := ⟨_, rfl⟩
 obtain ⟨k, hk⟩ : ∃ k, chkB l gap = k := ⟨_, rfl⟩
 have HK := hid (show Calls Try.prog 27 #[.slice A n c, .int .i64 gap] w (RetI w k) from by rw [← hk, ← hn]; exact Rchk_g l A c gap hl)
 have E1 := hid fun (h : k ≠ 0) => colC_bad (l := l) (gap := gap) (hk ▸ h)
 have E2 := hid fun (h : k = 0) (T : List Nat) (Ls : List (List Nat)) (hR : RefI l gap l.length T Ls) (ha : ∀ j, j < l.length → j ∈ T) => colC_of (hk.trans h) (hR.done ha)
 have E0 := hid fun (h : k = 0) => chk0 (hk.trans h)
 have HL := hid fun (h : k = 0) (W : World) (hb : Below w.heap.size w W) (T : List Nat) (g : Nat) (hT : W.rowIs g 4 n (tkF T)) => (show Calls Try.prog 33 #[.slice A n c, .slice (some ⟨g, 0, none⟩) n n] W (RetLm l T n W) from by
  have h1 := hn
  subst h1
  exact Rleft_g l A c T g (hl.below hb) (chk0 (hk.trans h)).1 hT)
 have HN := hid fun (h : k = 0) (W : World) (i j : Nat) (hi : i < n) (hj : j < n) => (show Calls Try.prog 34 #[.agg #[.int .i64 (l.getD i default).x, .int .i64 (l.getD i default).y, .int .i64 (l.getD i default).w, .int .i64 (l.getD i default).h], .agg #[.int .i64 (l.getD j default).x, .int .i64 (l.getD j default).y, .int .i64 (l.getD j default).w, .int .i64 (l.getD j default).h], .int .i64 gap] W (RetB W (nearB l gap i j)) from by
  obtain ⟨h1, h2, h3, h4⟩ := chk0 (hk.trans h)
  exact Rnear_g _ _ gap (h4 _ (by simp [show i < l.length by omega])) (h4 _ (by simp [show j < l.length by omega])) h2 h3 W)
 have HI := hid fun (h : k = 0) (W : World) (hb : Below w.heap.size w W) (s : List Nat) (v : Value) (i : Nat) (hi : i < n) (hs : s.length ≤ 4096) (hsn : ∀ a ∈ s, a < n) (hz : Zs W v s) => (show Calls Try.prog 35 #[.slice A n c, v, .int .i64 (i : Int)] W (RetZ W (insB l s i)) from by
  rw [← hn]
  exact Rins_g l A c s v i (hl.below hb) (chk0 (hk.trans h)).1 hz hs (fun a ha => by have := hsn a ha; omega) (by omega))
 have cc := Nat.le_trans hl.cap hl.max
 have hl0 := hid hl
 rw [hk]
 rw [hn] at cc E2 ⊢
 replace hn := hid hn
 obtain ⟨R, hR⟩ : ∃ R, colC l gap = R := ⟨_, rfl⟩
 rw [hR] at E1 E2 ⊢
 clear hl hk hR
 go_enter Try.func18, Try.ntmps18
 go_wp2_with fail
 refine HK.out.mono ?_
 rintro e w1 ⟨rfl, HB⟩
 clear HK
 by_cases hk0 : k = 0
 ·obtain ⟨h4, hg0, hg1, hok⟩ := E0.out hk0
  rw [hn.out] at h4
  replace HL := hid (HL.out hk0)
  replace HN := hid (HN.out hk0)
  replace HI := hid (HI.out hk0)
  replace E2 := hid (E2.out hk0)
  clear E1 E0 hok
  subst hk0
  have hmk := run_make_row' (P := Try.prog) 46 4 (.bool false) 1 Try.underlying46 infoBool rfl .i64 .i64 n (by omega) (by omega)
  have hrow : (w1.alloc (.cells (madeCells #[.bool false] n) 4)).rowIs w1.heap.size 4 n (tkF []) := World.rowIs_made w1 (.bool false) n 4
  have hb0 : Below w1.heap.size w1 (w1.alloc (.cells (madeCells #[.bool false] n) 4)) := (Below.refl _ _).alloc (Nat.le_refl _) _
  have hz2 : (w1.alloc (.cells (madeCells #[.bool false] n) 4)).heap.size = w1.heap.size + 1 := by simp
  go_upto_region 5 with fail
  generalize w1.alloc (.cells (madeCells #[.bool false] n) 4) = w2 at *
  clear hmk
  have HB2 := bel_step HB hb0
  have hG0 := Grps.nil w2 w2.heap.size w2.heap.size 56
  have hR0 := hid (RefI.nil l gap n)
  have hC := hid (HL.out w2 HB2 [] w1.heap.size hrow)
  go_wp2_with fail
  refine hC.out.mono ?_
  rintro e w3 ⟨x, rfl, hx, hb3⟩
  have hrow3 := rowK hrow hb3
  have hG3 := hG0.below hb3
  have hb4 := bel_step hb0 hb3
  have hz3 := hb3.size
  replace hx := hid hx
  clear hC hrow hG0 hb3 hb0 HB2
  go_wp2
  go_loopw [9, 8] (fun s9 s8 wr => ∃ (T : List Nat) (Ls : List (List Nat)) (vs : List Value) (x : Int), s9 = .int .i64 x ∧ Hid (RefI l gap n T Ls) ∧ Hid (LmB l T n x) ∧ wr.rowIs w1.heap.size 4 n (tkF T) ∧ Grps wr w2.heap.size w2.heap.size 56 s8 vs Ls ∧ Below w1.heap.size w1 wr ∧ w2.heap.size ≤ wr.heap.size) (fun _ s8 _ => n - lenZ s8)
  case atStart => exact ⟨[], [], [], x, rfl, hR0, hx, hrow3, hG3, hb4, hz3⟩
  case round =>
   clear hR0 hx hrow3 hG3 hb4 hz3
   obtain ⟨T, Ls, vs, x, rfl, hR, hx, hT, hG, hb, hz⟩ := hrel
   obtain ⟨A8, c8, hv8, _⟩ := hG.zls.form
   subst hv8
   obtain ⟨m8, hm8⟩ : ∃ z, Ls.length = z := ⟨_, rfl⟩
   rw [hm8] at hG ⊢
   have hm8h := hid hm8
   clear hm8
   rcases hx.out with ⟨rfl, hall⟩ | ⟨k0, rfl, hk0, hkT, hmin⟩
   ·have hRe := E2.out T Ls hR.out hall
    have hLl : Ls.length ≤ 5000 := by
     have h1 := flat_len Ls hR.out.ne
     rw [hR.out.pm.length_eq] at h1
     have h2 := hR.out.len
     omega
    have hC := hid (Rlists_g Ls (.slice A8 m8 c8) hG.zls hLl)
    have hB2 := bel_step HB hb
    subst hRe
    clear E2 HL HN HI hR hx hall hT hG
    go_wp2_with fail
    refine hC.out.mono ?_
    rintro e w5 ⟨v5, rfl, hz5, hb5⟩
    have hres := hid (show RetLE w R 0 (.returned (.tuple #[v5, .int .i64 0])) w5 from ⟨_, rfl, hz5, bel_step hB2 hb5⟩)
    clear hz5 hb5 hC
    go_wp2
    refine bodyPost_ret (v := .tuple #[v5, .int .i64 0]) ?_ rfl ?_
    ·simp [results, Try.results18, go_sem]
    ·exact hres.out
   ·have hkz : (0 : Int) ≤ (k0 : Int) := by omega
    have hkk : (k0 : Int) < (n : Int) := by omega
    have hcol := hid (ColI.start (l := l) (gap := gap) hR.out.nd hR.out.lt hkT hk0)
    have hcls := hid (show ClsI l gap n T [k0] 0 from fun a c _ ha => by omega)
    have c0 := hT.cell hk0
    have fz := hT.frozen
    have ltg := hT.lt
    have hT5 := (hT.set k0 (.bool true)).congr (g := tkF (T ++ [k0])) (fun j _ => tkF_step T k0 j)
    have hG5 := hG.keptB (w' := wr.setCell ⟨w1.heap.size, k0, none⟩ (.bool true)) (fun b hb => blk_setCell_other _ _ _ _ (by dsimp only; omega))
    have hb5 := below_set hb (Nat.le_refl _) k0 (.bool true)
    have hz5 : w2.heap.size ≤ (wr.setCell ⟨w1.heap.size, k0, none⟩ (.bool true)).heap.size := by rw [World.size_setCell]; exact hz
    replace hmin := hid hmin
    clear hT hG hb hx
    obtain ⟨w5, hw5⟩ : ∃ w5, wr.setCell ⟨w1.heap.size, k0, none⟩ (.bool true) = w5 := ⟨_, rfl⟩
    rw [hw5] at hT5 hG5 hb5 hz5
    go_upto_region 10 with fail
    clear hw5
    have hT6 := row_alloc hT5 (.cells #[.int .i64 (k0 : Int)] 3)
    have hG6 := hG5.below ((Below.refl _ _).alloc (Nat.le_refl _) (.cells #[.int .i64 (k0 : Int)] 3))
    have hb6 := hb5.alloc (by omega) (.cells #[.int .i64 (k0 : Int)] 3)
    have hO6 := own_lit w5 k0 hz5
    have hz6 : w2.heap.size ≤ (w5.alloc (.cells #[.int .i64 (k0 : Int)] 3)).heap.size := by simp; omega
    have hap6 : Apart (.slice A8 m8 c8) (.slice (some ⟨w5.heap.size, 0, none⟩) 1 1) vs := Apart.new hG5 (fun x hx => by simp [Value.ownBlock] at hx; omega)
    clear hT5 hG5 hb5
    go_wp2
    go_loopw [11, 10] (fun s11 s10 wz => ∃ (m : Nat) (C : List Nat), s11 = .int .i64 (m : Int) ∧ m ≤ C.length ∧ Hid (ColI l gap n T C k0) ∧ Hid (ClsI l gap n T C m) ∧ wz.rowIs w1.heap.size 4 n (tkF (T ++ C)) ∧ Grps wz w2.heap.size w2.heap.size 56 (.slice A8 m8 c8) vs Ls ∧ OwnZ wz w2.heap.size s10 C ∧ Apart (.slice A8 m8 c8) s10 vs ∧ Below w1.heap.size w1 wz ∧ w2.heap.size ≤ wz.heap.size) (fun s11 _ _ => n - (intOf s11).toNat)
    case atStart => exact ⟨0, [k0], rfl, by simp, hcol, hcls, hT6, hG6, hO6, hap6, hb6, hz6⟩
    case round =>
     clear hcol hcls hT6 hG6 hO6 hap6 hb6 hz6
     obtain ⟨m, C, rfl, hmC, hcol, hcls, hT, hG, hO, hap, hb, hz⟩ := hrel
     have hCl := hcol.out.len
     have hCpos : 0 < C.length := List.length_pos_of_mem hcol.out.k0
     obtain ⟨gc, cc_, hvc, hgc1, hgc2⟩ := own_form hO hCpos
     subst hvc
     obtain ⟨cl, hcl⟩ : ∃ z, C.length = z := ⟨_, rfl⟩
     rw [hcl] at hmC hO hap hCl hCpos ⊢
     have hclh := hid hcl
     by_cases hmc : m < cl
     ·have hmz : (m : Int) < (cl : Int) := by omega
      obtain ⟨a, ha⟩ : ∃ a, C[m]'(by omega) = a := ⟨_, rfl⟩
      have hCm := hid (show C[m]? = some a from by rw [List.getElem?_eq_getElem (by omega), ha])
      have hck := hid (show ClsK l gap T C a 0 from fun y hy => by omega)
      have han : a < n := hcol.out.lt a (List.mem_append_right _ (ha ▸ List.getElem_mem _))
      have hmCl := hid (show m < C.length from by omega)
      have hO7 := hid hO
      rw [← hcl] at hO7
      clear ha hcl hO
      obtain ⟨wy, hwy⟩ : ∃ wy, wy = wr := ⟨_, rfl⟩
      subst hwy
      go_wp2
      go_loopw [12, 10] (fun s12 s10 wz => ∃ (k : Nat) (C : List Nat), s12 = .int .i64 (k : Int) ∧ k ≤ n ∧ Hid (ColI l gap n T C k0) ∧ Hid (ClsI l gap n T C m) ∧ Hid (C[m]? = some a) ∧ Hid (ClsK l gap T C a k) ∧ Hid (m < C.length) ∧ wz.rowIs w1.heap.size 4 n (tkF (T ++ C)) ∧ Grps wz w2.heap.size w2.heap.size 56 (.slice A8 m8 c8) vs Ls ∧ OwnZ wz w2.heap.size s10 C ∧ Apart (.slice A8 m8 c8) s10 vs ∧ Below w1.heap.size w1 wz ∧ w2.heap.size ≤ wz.heap.size) (fun s12 _ _ => n - (intOf s12).toNat)
      case atStart => exact ⟨0, C, rfl, by omega, hcol, hcls, hCm, hck, hmCl, hT, hG, hclh.out ▸ hO7.out, hap, hb, hz⟩
      case round =>
       clear hcol hcls hCm hck hmCl hT hG hO7 hap hb hz hclh hCl hCpos hgc1 hgc2
       obtain ⟨k, C, rfl, hk, hcol, hcls, hCm, hck, hmCl, hT, hG, hO, hap, hb, hz⟩ := hrel
       have hCl := hcol.out.len
       obtain ⟨gc, cc_, hvc, hgc1, hgc2⟩ := own_form hO (by have := hmCl.out; omega)
       subst hvc
       obtain ⟨cl, hcl⟩ : ∃ z, C.length = z := ⟨_, rfl⟩
       have hOl := hid (hcl ▸ hO)
       have hmcl : m < cl := by have := hmCl.out; omega
       rw [hcl] at hap hCl ⊢
       have hclh := hid hcl
       by_cases hkn : k < n
       ·have hkz : (k : Int) < (n : Int) := by omega
        have hmz : (m : Int) < (cl : Int) := by omega
        have haz : (a : Int) < (n : Int) := by omega
        have ct := hT.cell hkn
        unfold tkF at ct
        have cm : wr.cell? ⟨gc, m, none⟩ = some (.int .i64 (a : Int)) := by
         have h0 := OwnZ.cel (c := cc_) hO m (by have := hmCl.out; omega)
         rw [Nat.zero_add] at h0
         rw [h0]
         have h1 := hCm.out
         rw [List.getElem?_eq_getElem (by have := hmCl.out; omega)] at h1
         injection h1 with h1
         rw [h1]; rfl
        clear hO hcl
        by_cases htk : k ∈ T ++ C
        ·have hc : (T ++ C).contains k = true := by simpa using htk
         rw [hc] at ct
         have hck2 := hid (hck.out.step (.inl htk))
         clear hc htk
         go_upto_region 17 with fail
         go_quiet (fail)
         have hv : Below wr.heap.size wr (wr.drewN nq) := below_drewN (Below.refl _ _) _
         generalize hvq : wr.drewN nq = v2 at hv ⊢
         have hT2 := hid (rowK hT hv)
         have hG2 := hid (hG.below hv)
         have hO2 := hid (hOl.out.below hv)
         have hb2 := hid (bel_step hb hv)
         have hz2' := hid (Nat.le_trans hz hv.size)
         clear hvq hv hT hG hOl hb hz ct cm
         go_wp2
         go_roundw
         case rel => exact ⟨k + 1, C, by go_num, by omega, hcol, hcls, hCm, hck2, hmCl, hT2.out, hG2.out, hO2.out, hap, hb2.out, hz2'.out⟩
         case measure => simp [intOf]; omega
        ·have hc : (T ++ C).contains k = false := by simpa using htk
         rw [hc] at ct
         obtain ⟨b, o, hA⟩ : ∃ b o, A = some ⟨b, o, none⟩ := by
          obtain ⟨b, o, hA, _⟩ := hl0.out.at_ (k := k) (by have := hn.out; omega)
          exact ⟨b, o, hA⟩
         subst hA
         have hq := hl0.out.below (bel_step HB hb)
         obtain ⟨e0, e1, e2, e3⟩ := hq.xy hn.out han
         obtain ⟨f0, f1, f2, f3⟩ := hq.xy hn.out hkn
         have hac : a ∈ C := List.mem_of_getElem? hCm.out
         have hFs := hid fun (h : nearB l gap a k = false) => hck.out.step (.inr h)
         have hTr := hid fun (h : nearB l gap a k = true) => (show ColI l gap n T (C ++ [k]) k0 ∧ ClsI l gap n T (C ++ [k]) m ∧ (C ++ [k])[m]? = some a ∧ ClsK l gap T (C ++ [k]) a (k + 1) ∧ m < (C ++ [k]).length from
          ⟨hcol.out.grow hac htk hkn h, hcls.out.grow (Nat.le_of_lt hmCl.out), by rw [List.getElem?_append_left hmCl.out]; exact hCm.out, (hck.out.grow).step (.inl (by simp)), by have := hmCl.out; simp; omega⟩)
         have HNr := hid fun (W : World) => HN.out W a k han hkn
         obtain ⟨t, ht⟩ : ∃ t, nearB l gap a k = t := ⟨_, rfl⟩
         rw [ht] at hFs hTr HNr
         generalize l.getD a default = p at *
         generalize l.getD k default = q at *
         obtain ⟨x1, y1, bw1, bh1⟩ := p
         obtain ⟨x2, y2, bw2, bh2⟩ := q
         dsimp only at e0 e1 e2 e3 f0 f1 f2 f3 HNr
         clear hc htk ht hq HN HL HI E2
         go_upto_region 17 with fail
         go_region_held3 (fun w' => (w'.cell? ⟨w1.heap.size, k, none⟩ = some (.bool false) ∧ w'.cell? ⟨gc, m, none⟩ = some (.int .i64 (a : Int))) ∧ ((w'.cell? ⟨b, o + a * 4, none⟩ = some (.int .i64 x1) ∧ w'.cell? ⟨b, o + a * 4 + 1, none⟩ = some (.int .i64 y1)) ∧ (w'.cell? ⟨b, o + a * 4 + 2, none⟩ = some (.int .i64 bw1) ∧ w'.cell? ⟨b, o + a * 4 + 3, none⟩ = some (.int .i64 bh1))) ∧ ((w'.cell? ⟨b, o + k * 4, none⟩ = some (.int .i64 x2) ∧ w'.cell? ⟨b, o + k * 4 + 1, none⟩ = some (.int .i64 y2)) ∧ (w'.cell? ⟨b, o + k * 4 + 2, none⟩ = some (.int .i64 bw2) ∧ w'.cell? ⟨b, o + k * 4 + 3, none⟩ = some (.int .i64 bh2)))) (first | ((try dsimp only); repeat' (first | with_reducible assumption | apply And.intro | (with_reducible refine keep_alloc ?_) | (with_reducible refine keep_drew ?_) | (with_reducible refine keep_set (by omega) ?_) | (with_reducible refine keep_sets (by omega) ?_) | (with_reducible refine keep_cell (W := wr) ?_ ?_) | fail))) ((go_at_call 34; (with_reducible refine (HNr.out _).mono ?_); rintro e v2 ⟨rfl, hq_⟩; have hv : Below wr.heap.size wr v2 := bel_step BG hq_))
         all_goals
          have hT2 := rowK hT hv
          have hG2 := hG.below hv
          have hO2 := hOl.out.below hv
          have hb2 := bel_step hb hv
          have hz2' := Nat.le_trans hz hv.size
          clear hv hT hG hOl hb hz ct cm e0 e1 e2 e3 f0 f1 f2 f3 HNr
          cases t
          ·have hck2 := hid (hFs.out (by first | rfl | trivial))
           replace hT2 := hid hT2
           replace hG2 := hid hG2
           replace hO2 := hid hO2
           clear hFs hTr
           go_wp2
           go_roundw
           case rel => exact ⟨k + 1, C, by go_num, by omega, hcol, hcls, hCm, hck2, hmCl, hT2.out, hG2.out, hO2.out, hap, hb2, hz2'⟩
           case measure => simp [intOf]; omega
          ·obtain ⟨hcol2, hcls2, hCm2, hck2, hmCl2⟩ := hTr.out (by first | rfl | trivial)
           have c0 := hT2.cell hkn
           have fz := hT2.frozen
           have ltg := hT2.lt
           have hT5 := (hT2.set k (.bool true)).congr (g := tkF (T ++ (C ++ [k]))) (fun j _ => by rw [← List.append_assoc]; exact tkF_step (T ++ C) k j)
           have hG5 := hG2.keptB (w' := v2.setCell ⟨w1.heap.size, k, none⟩ (.bool true)) (fun b hb => blk_setCell_other _ _ _ _ (by dsimp only; omega))
           have hO5 := hO2.kept (w' := v2.setCell ⟨w1.heap.size, k, none⟩ (.bool true)) (fun b hb => blk_setCell_other _ _ _ _ (by have := (hO2.lt hb).1; dsimp only; omega))
           have hb5 := below_set hb2 (Nat.le_refl _) k (.bool true)
           have hz5 : w2.heap.size ≤ (v2.setCell ⟨w1.heap.size, k, none⟩ (.bool true)).heap.size := by rw [World.size_setCell]; exact hz2'
           replace hcol2 := hid hcol2
           replace hcls2 := hid hcls2
           replace hCm2 := hid hCm2
           replace hck2 := hid hck2
           replace hmCl2 := hid hmCl2
           clear hFs hTr hT2 hG2 hO2 hb2 hz2'
           obtain ⟨w6, hw6⟩ : ∃ w6, v2.setCell ⟨w1.heap.size, k, none⟩ (.bool true) = w6 := ⟨_, rfl⟩
           rw [hw6] at hT5 hG5 hO5 hb5 hz5
           go_upto_region 19 with fail
           clear hw6 c0 fz
           have hTx := row_alloc hT5 (.cells #[.int .i64 (k : Int)] 3)
           have hGx := hG5.below ((Below.refl _ _).alloc (Nat.le_refl _) (.cells #[.int .i64 (k : Int)] 3))
           have hOx := hO5.below ((Below.refl _ _).alloc (Nat.le_refl _) (.cells #[.int .i64 (k : Int)] 3))
           have hbx := hb5.alloc (by omega) (.cells #[.int .i64 (k : Int)] 3)
           have hlC : C.length ≤ 1000000 := by rw [hclh.out]; omega
           clear hT5 hG5 hO5 hb5
           go_wp2_with (at_builtin; go_loud (refine wpList_app1 rfl (.tmp 72) (.tmp 74) rfl w2.heap.size _ C k w6.heap.size rfl hOx rfl (at_one rfl) hlC (by simp; omega) ?_); intro v7 w7 hO7 hg7 hat7; have hb7 := hid (Below.grownZ hbx hOx hg7 (by simp; omega) (by omega)); have hG7 := hid (hGx.growO hap hg7); have hap7 := hid (hap.grow hGx hat7); have hT7 := hid (row_grown hTx hg7 (fun e => by have := (hOx.lt e.symm).1; omega)); have hO7 := hid hO7; have hz7 := hid (show w2.heap.size ≤ w7.heap.size from by have := hg7.size; simp at this; omega); clear hg7 hat7 hGx hOx hbx hTx)
           refine ⟨⟨k + 1, C ++ [k], by go_num, by omega, hcol2, hcls2, hCm2, hck2, hmCl2, hT7.out, hG7.out, hO7.out, hap7.out, hb7.out, hz7.out⟩, by simp [intOf]; omega⟩
       ·obtain rfl : k = n := by omega
        have hkz : ¬ (k : Int) < (k : Int) := by omega
        have hcls2 := hid (hcls.out.step hCm.out hck.out)
        clear hcl hO
        go_wp2
        go_roundw
        case rel => exact ⟨m + 1, C, by go_num, by have := hmCl.out; omega, hcol, hcls2, hT, hG, hOl.out, hap, hb, hz⟩
        case measure => simp [intOf]; omega
     ·obtain rfl : cl = m := by omega
      have hmz : ¬ (cl : Int) < (cl : Int) := by omega
      have hR2 := hid (show RefI l gap n (T ++ C) (Ls ++ [insAll l C]) from by
       have h1 := hn.out
       have h2 := hclh.out
       subst h1 h2
       exact hR.out.add hcol.out hcls.out hmin.out)
      have hCn := hid (fun a (ha : a ∈ C) => hcol.out.lt a (List.mem_append_right _ ha))
      have hRC := hid fun (W : World) (hO' : OwnZ W w2.heap.size (.slice (some ⟨gc, 0, none⟩) cl cc_) C) (j : Nat) (hj : j < C.length) => (show W.cell? ⟨gc, j, none⟩ = some (.int .i64 (C[j] : Int)) from by
       have h0 := OwnZ.cel (c := cc_) hO' j hj
       rw [Nat.zero_add] at h0
       exact h0)
      have hS0 := OwnZ.nil wr w2.heap.size
      have hapS := Apart.nil (.slice A8 m8 c8) vs
      have hins0 : insAll l (C.take 0) = [] := rfl
      rw [← hins0] at hS0
      have hm8n : m8 + 1 ≤ n := by
       have h1 := flat_len Ls hR.out.ne
       rw [hR.out.pm.length_eq, hm8h.out] at h1
       omega
      obtain ⟨wy, hwy⟩ : ∃ wy, wy = wr := ⟨_, rfl⟩
      subst hwy
      have hOg : OwnZ wy w2.heap.size (.slice (some ⟨gc, 0, none⟩) cl cc_) C := hO
      clear hcl hcls hO hins0 E2 HN
      go_wp2
      go_loopw [14, 13] (fun s14 s13 wz => ∃ i : Nat, s14 = .int .i64 (i : Int) ∧ i ≤ cl ∧ OwnZ wz w2.heap.size s13 (insAll l (C.take i)) ∧ Apart (.slice A8 m8 c8) s13 vs ∧ OwnZ wz w2.heap.size (.slice (some ⟨gc, 0, none⟩) cl cc_) C ∧ wz.rowIs w1.heap.size 4 n (tkF (T ++ C)) ∧ Grps wz w2.heap.size w2.heap.size 56 (.slice A8 m8 c8) vs Ls ∧ Below w1.heap.size w1 wz ∧ w2.heap.size ≤ wz.heap.size) (fun s14 _ _ => cl - (intOf s14).toNat)
      case atStart => exact ⟨0, rfl, by omega, hS0, hapS, hOg, hT, hG, hb, hz⟩
      case round =>
       clear hS0 hapS hOg hT hG hb hz hap
       obtain ⟨i, rfl, hi, hS, hapS, hO, hT, hG, hb, hz⟩ := hrel
       by_cases hic : i < cl
       ·have hiz : (i : Int) < (cl : Int) := by omega
        have hiC : i < C.length := by have := hclh.out; omega
        have co := hRC.out wr hO i hiC
        have hst := hid (show insAll l (C.take (i + 1)) = insB l (insAll l (C.take i)) C[i] from by rw [List.take_succ_eq_append_getElem hiC, insAll_snoc])
        have hC4 := hid (HI.out wr (bel_step HB hb) (insAll l (C.take i)) u13 C[i] (hCn.out _ (List.getElem_mem hiC)) (by rw [insAll_len]; simp; omega) (fun a ha => hCn.out a (List.mem_of_mem_take ((insAll_perm l _).mem_iff.1 ha))) hS.zs)
        generalize C[i] = a at *
        clear HI hRC hCn hS hapS
        go_wp2_with fail
        refine hC4.out.mono ?_
        rintro e w3' ⟨v3, rfl, hO3, hb3⟩
        have hS3 := hid (show OwnZ w3' w2.heap.size v3 (insAll l (C.take (i + 1))) from by rw [hst.out]; exact hO3.older hz)
        have hap3 := hid (Apart.new hG (fun x hx => (hO3.lt hx).1))
        have hOc := hid (hO.below hb3)
        have hT3 := hid (rowK hT hb3)
        have hG3 := hid (hG.below hb3)
        have hb4 := hid (bel_step hb hb3)
        have hz3' := hid (Nat.le_trans hz hb3.size)
        clear hC4 hO3 hb3 hO hT hG hb hz co
        go_wp2
        go_roundw
        case rel => exact ⟨i + 1, by go_num, by omega, hS3.out, hap3.out, hOc.out, hT3.out, hG3.out, hb4.out, hz3'.out⟩
        case measure => simp [intOf]; omega
       ·obtain rfl : i = cl := by omega
        have hiz : ¬ (i : Int) < (i : Int) := by omega
        have hfull : insAll l (C.take i) = insAll l C := by rw [List.take_of_length_le (by have := hclh.out; omega)]
        rw [hfull] at hS
        obtain ⟨As, cs, hvs⟩ := hS.form
        subst hvs
        obtain ⟨sl, hsl⟩ : ∃ z, (insAll l C).length = z := ⟨_, rfl⟩
        rw [hsl] at hS hapS ⊢
        have hvl : vs.length ≤ 1000000 := by rw [hG.len, hm8h.out]; omega
        have hGx := hG.below ((Below.refl _ _).alloc (Nat.le_refl _) (.cells #[.slice As sl cs] 56))
        have hSx := hS.below ((Below.refl _ _).alloc (Nat.le_refl _) (.cells #[.slice As sl cs] 56))
        have hTx := row_alloc hT (.cells #[.slice As sl cs] 56)
        have hox := hGx.out
        have hbx := hb.alloc (by omega) (.cells #[.slice As sl cs] 56)
        have hlen8 := hid (show (Ls ++ [insAll l C]).length = m8 + 1 from by simp; exact hm8h.out)
        clear hS hG hT hb HI hRC hCn hO hsl
        go_upto_region 8 with (at_builtin; go_loud (refine wpList_appV rfl (.tmp 89) (.tmp 92) 51 56 (.agg #[.slice none 0 0]) 24 (by omega) rfl Try.underlying51 infoGr rfl w2.heap.size (.slice A8 m8 c8) vs (.slice As sl cs) wr.heap.size rfl hox rfl (at_one rfl) rfl hvl (by simp; omega) ?_); intro v5 w5' hO5 hg5 hat5)
        have hG5 := hGx.push hO5 hg5 hat5 hSx (fun j h => hapS.sym j h) hapS
        have hT5 := row_grown hTx hg5 (fun e => by have := (World.ownsRow.lt hox _ e.symm).1; omega)
        have hb5 := Below.grown hbx hg5 (by simp; omega) (fun b e => by have := (World.ownsRow.lt hox b e).1; omega)
        have hz5' : w2.heap.size ≤ w5'.heap.size := by have := hg5.size; simp at this; omega
        have hC5 := hid (HL.out w5' (bel_step HB hb5) (T ++ C) w1.heap.size hT5)
        obtain ⟨A5, c5, hv5, _⟩ := hG5.zls.form
        rw [hlen8.out] at hv5
        subst hv5
        clear hO5 hg5 hat5 hGx hSx hTx hox hbx hapS HL
        go_wp2_with fail
        refine hC5.out.mono ?_
        rintro e w6 ⟨x6, rfl, hx6, hb6⟩
        have hT6' := hid (rowK hT5 hb6)
        have hG6' := hid (hG5.below hb6)
        have hb7 := hid (bel_step hb5 hb6)
        have hz7 := hid (Nat.le_trans hz5' hb6.size)
        replace hx6 := hid hx6
        clear hC5 hT5 hG5 hb5 hb6 hz5'
        go_wp2
        go_roundw
        case rel => exact ⟨T ++ C, _, _, x6, rfl, hR2, hx6, hT6'.out, hG6'.out, hb7.out, hz7.out⟩
        case measure => simp [lenZ]; omega
 ·have hE := E1.out hk0
  subst hE
  clear E1 E0 E2 HI HN HL
  go_wp2
  refine bodyPost_ret (v := .tuple #[.slice none 0 0, .int .i64 k]) ?_ rfl ?_
  ·simp [results, Try.results18, go_sem]
  ·exact ⟨_, rfl, Zls.nil _, HB⟩
end Go.Proofs.Ytjdgjhaggpahkaa
