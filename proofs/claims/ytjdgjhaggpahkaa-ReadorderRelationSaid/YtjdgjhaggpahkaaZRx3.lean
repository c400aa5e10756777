/- Reading order: Paragraphs of the reference. Conditions: none. -/
import Derived.Test.YtjdgjhaggpahkaaZRx2
import Derived.Test.YtjdgjhaggpahkaaZNr4
set_option linter.unusedVariables false
set_option linter.unusedSimpArgs false
namespace Go.Proofs.Ytjdgjhaggpahkaa
open Go.RowKit Go.Deep
/-- an own row of a block apart from an own row of lists -/
def Apart (v u : Value) (vs : List Value) : Prop := u.ownBlock = none ∨ ((∀ j (h : j < vs.length), u.ownBlock ≠ vs[j].ownBlock) ∧ u.ownBlock ≠ v.ownBlock)
theorem Apart.nil (v : Value) (vs : List Value) : Apart v (.slice none 0 0) vs := .inl rfl
theorem Grps.growO {w w' : World} {B B2 : Nat} {e : TypeId} {v : Value} {vs : List Value} {Ls : List (List Nat)} (h : Grps w B B2 e v vs Ls) {u : Value} (ha : Apart v u vs) (hg : w.grownBy w' u.ownBlock) : Grps w' B B2 e v vs Ls := by
 refine ⟨World.ownsRow.kept h.out hg ?_, h.len, fun j h1 h2 => (h.own j h1 h2).grown hg ?_, h.apart, h.far⟩
 ·rcases ha with ha | ha
  ·rw [ha]; cases v.ownBlock <;> simp
  ·exact .inr (fun e => ha.2 e.symm)
 ·rcases ha with ha | ha
  ·rw [ha]; cases vs[j].ownBlock <;> simp
  ·exact .inr (fun e => ha.1 j h1 e.symm)
theorem Apart.grow {w : World} {B B2 : Nat} {e : TypeId} {v u u' : Value} {vs : List Value} {Ls : List (List Nat)} (ha : Apart v u vs) (h : Grps w B B2 e v vs Ls) (hat : u'.ownBlock = u.ownBlock ∨ u'.ownBlock = some w.heap.size) : Apart v u' vs := by
 rcases hat with e1 | e1
 ·unfold Apart; rw [e1]; exact ha
 ·refine .inr ⟨fun j hj e2 => ?_, fun e2 => ?_⟩
  ·rw [e1] at e2
   have := ((h.own j hj (h.len ▸ hj)).lt e2.symm).2
   omega
  ·rw [e1] at e2
   have := (h.lt e2.symm).2
   omega
theorem Apart.sym {v u : Value} {vs : List Value} (ha : Apart v u vs) (j : Nat) (h : j < vs.length) : vs[j].ownBlock = none ∨ vs[j].ownBlock ≠ u.ownBlock := by
 rcases ha with e | e
 ·rw [e]; cases vs[j].ownBlock <;> simp
 ·exact .inr (fun e2 => e.1 j h e2.symm)
/-- the package's state out of the reference's -/
def refS (low : Int) (Ls : List (List Nat)) (now : List Nat) : ParS := ⟨low, if now = [] then Ls else Ls ++ [now]⟩
theorem ref_new {l : List Bx} {gap low : Int} {Ls : List (List Nat)} {now : List Nat} {i : Nat} (h0 : now ≠ []) (h : low + gap < (l.getD i default).y) : parStep l gap (refS low Ls now) i = refS ((l.getD i default).y + (l.getD i default).h) (Ls ++ [now]) [i] := by
 unfold parStep refS
 simp only [h0, if_false]
 rw [if_pos (.inr h)]
 simp
theorem ref_old {l : List Bx} {gap low : Int} {Ls : List (List Nat)} {now : List Nat} {i : Nat} (h0 : now ≠ []) (h : ¬ low + gap < (l.getD i default).y) : parStep l gap (refS low Ls now) i = refS (max low ((l.getD i default).y + (l.getD i default).h)) Ls (now ++ [i]) := by
 unfold parStep refS
 simp only [h0, if_false]
 have hh : ¬ ((Ls ++ [now]).length = 0 ∨ low + gap < (l.getD i default).y) := by
  rintro (hh | hh)
  ·simp at hh
  ·exact h hh
 rw [if_neg hh]
 simp
theorem ref_0 {l : List Bx} {gap low : Int} {i : Nat} : parStep l gap (refS low [] []) i = refS ((l.getD i default).y + (l.getD i default).h) [] [i] := by
 unfold parStep refS
 simp
set_option maxRecDepth 100000 in
set_option maxHeartbeats 16000000 in
theorem RPar_g (l : List Bx) (A : Option Addr) (c : Nat) (gap : Int) {w : World} (hl : Qb w A c l) :
  Calls Try.prog 21 #[.slice A l.length c, .int .i64 gap] w (RetLE w (parE l gap).1 (parE l gap).2) := by
 obtain ⟨n, hn⟩ : ∃ n, l.length = n := ⟨_, rfl⟩
 obtain ⟨k, hk⟩ : ∃ k, chkB l gap = k := ⟨_, rfl⟩
 have HK := hid (show Calls Try.prog 27 #[.slice A n c, .int .i64 gap] w (RetI w k) from by rw [← hk, ← hn]; exact Rchk_g l A c gap hl)
 have E1 := hid fun (h : k ≠ 0) => (show parE l gap = ([], k) from by unfold parE; rw [hk, if_neg h])
 have E2 := hid fun (h : k = 0) => (show parE l gap = ((parS l gap (dwnB l)).L, 0) from by unfold parE; rw [hk, if_pos h])
 have E0 := hid fun (h : k = 0) => chk0 (hk.trans h)
 have HI := hid fun (h : k = 0) (W : World) (hb : Below w.heap.size w W) (i : Nat) (v : Value) (hi : i < n) (hz : Zs W v (insAll l (List.range i))) => (show Calls Try.prog 35 #[.slice A n c, v, .int .i64 (i : Int)] W (RetZ W (insAll l (List.range (i + 1)))) from by
  rw [List.range_succ, insAll_snoc, ← hn]
  exact Rins_g l A c _ v i (hl.below hb) (chk0 (hk.trans h)).1 hz (by rw [insAll_len]; have := (chk0 (hk.trans h)).1; simp; omega) (fun a ha => by have := (insAll_perm l _).mem_iff.1 ha; rw [List.mem_range] at this; omega) (by omega))
 have cc := Nat.le_trans hl.cap hl.max
 have hl0 := hid hl
 rw [hn] at cc ⊢
 replace hn := hid hn
 obtain ⟨R, hR⟩ : ∃ R, parE l gap = R := ⟨_, rfl⟩
 rw [hR] at E1 E2 ⊢
 clear hl hk hR
 go_enter Try.func21, Try.ntmps21
 go_wp2_with fail
 refine HK.out.mono ?_
 rintro e w1 ⟨rfl, HB⟩
 clear HK
 by_cases hk0 : k = 0
 ·obtain ⟨h4, hg0, hg1, hok⟩ := E0.out hk0
  rw [hn.out] at h4
  have hok2 := hid fun (k : Nat) (hk : k < n) => (show okB (l.getD k default) = true from hok _ (by have := hn.out; simp [show k < l.length by omega]))
  replace HI := hid (HI.out hk0)
  have hRR := hid (E2.out hk0)
  clear E1 E0 E2 hok
  subst hk0
  have hz0 : Zs w1 (.slice none 0 0) (insAll l (List.range 0)) := Zs.nil _
  have hb0 := Below.refl w1.heap.size w1
  go_wp2
  go_loopw [8, 7] (fun s8 s7 wr => ∃ i : Nat, s8 = .int .i64 (i : Int) ∧ i ≤ n ∧ Zs wr s7 (insAll l (List.range i)) ∧ Below w1.heap.size w1 wr) (fun s8 _ _ => n - (intOf s8).toNat)
  case atStart => exact ⟨0, rfl, by omega, hz0, hb0⟩
  case round =>
   clear hz0 hb0
   obtain ⟨i, rfl, hi, hz, hb⟩ := hrel
   by_cases hin : i < n
   ·have hii : (i : Int) < (n : Int) := by omega
    have hC := hid (HI.out wr (bel_step HB hb) i u7 hin hz)
    clear hz HI
    go_wp2_with fail
    refine hC.out.mono ?_
    rintro e w3 ⟨v3, rfl, hO3, hb3⟩
    have hz3 := hid hO3.zs
    have hb4 := hid (bel_step hb hb3)
    clear hC hO3 hb3
    go_wp2
    go_roundw
    case rel => exact ⟨i + 1, by go_num, by omega, hz3.out, hb4.out⟩
    case measure => simp [intOf]; omega
   ·obtain rfl : i = n := by omega
    have hii : ¬ (i : Int) < (i : Int) := by omega
    have hDa : insAll l (List.range i) = dwnB l := by have := insAll_all l; rwa [hn.out] at this
    rw [hDa] at hz
    obtain ⟨D, hD⟩ : ∃ D, dwnB l = D := ⟨_, rfl⟩
    have hDl := hid (show D.length = i from by rw [← hD, dwnB_len]; exact hn.out)
    have hDlt := hid fun (j : Nat) (hj : j < D.length) => (show D[j] < i from by
     have h1 : D[j] ∈ dwnB l := hD ▸ List.getElem_mem hj
     rw [dwnB_lt] at h1
     have := hn.out; omega)
    rw [hD] at hz hRR
    replace hD := hid hD
    obtain ⟨w4, hw4⟩ : ∃ w4, w4 = wr := ⟨_, rfl⟩
    subst hw4
    have HB4 := bel_step HB hb
    obtain ⟨Av, cv, hv, hcv1, hcv2⟩ := hz.form
    rw [hDl.out] at hv hcv1
    subst hv
    have hRc := hid fun (W : World) (hb : Below w4.heap.size w4 W) (j : Nat) (hj : j < D.length) => (show ∃ g o, Av = some ⟨g, o, none⟩ ∧ g < w4.heap.size ∧ W.cell? ⟨g, o + j, none⟩ = some (.int .i64 (D[j] : Int)) from by
     obtain ⟨A', c', e, _, _, h3⟩ := hz.ex
     injection e with e1 _ _
     obtain ⟨g', o', e4, h4, h5⟩ := h3 (by omega)
     exact ⟨g', o', e1.trans e4, h4, keep_cell hb (h5 j hj)⟩)
    have hG0 := Grps.nil w4 w4.heap.size w4.heap.size 56
    have hO0 := OwnZ.nil w4 w4.heap.size
    have hbo := Below.refl w4.heap.size w4
    clear HI hz hb hDa
    go_wp2
    go_loopw [12, 9, 10, 11] (fun s12 s9 s10 s11 wr => ∃ (j : Nat) (vs : List Value) (low : Int) (Ls : List (List Nat)) (now : List Nat), s12 = .int .i64 (j : Int) ∧ j ≤ i ∧ s11 = .int .i64 low ∧ Hid (parS l gap (D.take j) = refS low Ls now) ∧ Hid (now = [] ↔ j = 0) ∧ Hid (j = 0 → Ls = []) ∧ Grps wr w4.heap.size w4.heap.size 56 s9 vs Ls ∧ OwnZ wr w4.heap.size s10 now ∧ Apart s9 s10 vs ∧ Ls.length ≤ j ∧ now.length ≤ j ∧ -8192 ≤ low ∧ low ≤ 8192 ∧ Below w4.heap.size w4 wr ∧ w4.heap.size ≤ wr.heap.size) (fun s12 _ _ _ _ => i - (intOf s12).toNat)
    case atStart => exact ⟨0, [], 0, [], [], rfl, by omega, rfl, rfl, Iff.intro (fun _ => rfl) (fun _ => rfl), fun _ => rfl, hG0, hO0, Apart.nil _ _, by simp, by simp, by omega, by omega, hbo, Nat.le_refl _⟩
    case round =>
     clear hG0 hbo hO0
     obtain ⟨j, vs, low, Ls, now, rfl, hj, rfl, hS, hne, hL0, hG, hO, hap, hLj, hnj, hl1, hl2, hb, hz⟩ := hrel
     by_cases hji : j < i
     ·have hjj : (j : Int) < (i : Int) := by omega
      have hjl : j < D.length := by have := hDl.out; omega
      obtain ⟨g2, o2, hA2, hg2, co⟩ := hRc.out wr hb j hjl
      subst hA2
      have hjn := hDlt.out j hjl
      have hst : parS l gap (D.take (j + 1)) = parStep l gap (refS low Ls now) D[j] := by
       rw [List.take_succ_eq_append_getElem hjl, parS_snoc, hS.out]
      obtain ⟨a, ha⟩ : ∃ a, D[j] = a := ⟨_, rfl⟩
      rw [ha] at co hjn hst
      obtain ⟨b, o, hA⟩ : ∃ b o, A = some ⟨b, o, none⟩ := by
       obtain ⟨b, o, hA, _⟩ := hl0.out.at_ (k := 0) (by have := hn.out; omega)
       exact ⟨b, o, hA⟩
      subst hA
      obtain ⟨q0, q1, q2, q3⟩ := (hl0.out.below (bel_step HB4 hb)).xy hn.out hjn
      obtain ⟨k1, k2, k3, k4, k5, k6, k7, k8⟩ := okB_b (hok2.out a hjn)
      have hN := hid fun (h0 : now ≠ []) (h : low + gap < (l.getD a default).y) => hst.trans (ref_new h0 h)
      have hO' := hid fun (h0 : now ≠ []) (h : ¬ low + gap < (l.getD a default).y) => hst.trans (ref_old h0 h)
      have hZ' := hid fun (h0 : now = []) (h1 : Ls = []) => (show parS l gap (D.take (j + 1)) = refS ((l.getD a default).y + (l.getD a default).h) [] [a] from by rw [hst, h0, h1]; exact ref_0)
      generalize l.getD a default = q at *
      obtain ⟨x, y, bw, bh⟩ := q
      dsimp only at q0 q1 q2 q3 k1 k2 k3 k4 k5 k6 k7 k8 hN hO' hZ'
      have haa : (a : Int) < (i : Int) := by omega
      have w1' : IntKind.i64.wrap (y + bh) = y + bh := by rw [IntKind.wrap_i64]; omega
      have w2' : IntKind.i64.wrap (low + gap) = low + gap := by rw [IntKind.wrap_i64]; omega
      clear ha hS hst hRc hDlt hok2
      go_upto_region 16 with fail
      have hbx : Below wr.heap.size wr (wr.alloc (.cells #[.int .i64 x, .int .i64 y, .int .i64 bw, .int .i64 bh] 31)) := (Below.refl _ _).alloc (Nat.le_refl _) _
      have r0 := rng_alloc (w := wr) (cs := [.int .i64 x, .int .i64 y, .int .i64 bw, .int .i64 bh]) (t := 31)
      have co := keep_cell hbx co
      have hu9 := hid fun x hx => (hG.lt (k := x) hx)
      have hu10 := hid fun x hx => (hO.lt (k := x) hx)
      have hG := hG.below hbx
      have hO := hO.below hbx
      have hb := hb.trans (hbx.mono hz)
      have hz := Nat.le_trans hz hbx.size
      generalize hg1 : wr.heap.size = g1 at *
      generalize wr.alloc (.cells #[.int .i64 x, .int .i64 y, .int .i64 bw, .int .i64 bh] 31) = v1 at *
      have d1 : v1.cell? ⟨g1, 1, none⟩ = some (.int .i64 y) := r0 1 _ rfl
      have d3 : v1.cell? ⟨g1, 3, none⟩ = some (.int .i64 bh) := r0 3 _ rfl
      clear r0 q0 q1 q2 q3 hbx hg1
      obtain ⟨A10, c10, hv10⟩ := hO.form
      subst hv10
      by_cases hj0 : j = 0
      ·obtain rfl := hne.out.2 hj0
       obtain rfl := hL0.out hj0
       have hst := hid (hZ'.out rfl rfl)
       have hjz : ¬ (0 : Int) < (j : Int) := by omega
       have hmx : max (y + bh) (y + bh) = y + bh := by omega
       clear hN hO' hZ' hne hL0 hj0
       have hOx := hO.below ((Below.refl _ _).alloc (Nat.le_refl _) (.cells #[.int .i64 (a : Int)] 3))
       have hGx := hG.below ((Below.refl _ _).alloc (Nat.le_refl _) (.cells #[.int .i64 (a : Int)] 3))
       have hbx := hb.alloc hz (.cells #[.int .i64 (a : Int)] 3)
       clear hO hG hb
       go_wp2_with (at_builtin; go_loud (refine wpList_app1 rfl (.tmp 73) (.tmp 78) rfl w4.heap.size _ [] a v1.heap.size rfl hOx rfl (at_one rfl) (by simp) (by simp; omega) ?_); intro v5 w5 hO5 hg5 hat5; have hb5 := hid (Below.grownZ hbx hOx hg5 (by simp; omega) (Nat.le_refl _)); have hG5 := hid (hGx.growO hap hg5); have hap5 := hid (hap.grow hGx hat5); have hO5 := hid hO5; have hz5 := hid (show w4.heap.size ≤ w5.heap.size from by have := hg5.size; simp at this; omega); clear hg5 hat5 hGx hOx hbx hap)
       refine ⟨⟨j + 1, vs, y + bh, [], [a], by go_num, by omega, rfl, hst, hid ⟨fun h => by simp at h, fun h => by omega⟩, hid (fun h => by omega), hG5.out, hO5.out, hap5.out, by simp, by simp, by omega, by omega, hb5.out, hz5.out⟩, by simp [intOf]; omega⟩
      ·have hjz : (0 : Int) < (j : Int) := by omega
       have hnow := hid fun h => hj0 (hne.out.1 h)
       replace hN := hid (hN.out hnow.out)
       replace hO' := hid (hO'.out hnow.out)
       have hlen0 : now.length ≠ 0 := fun h => hnow.out (List.eq_nil_of_length_eq_zero h)
       obtain ⟨nl, hnl⟩ : ∃ z, now.length = z := ⟨_, rfl⟩
       rw [hnl] at hlen0 hap hO hnj ⊢
       replace hnl := hid hnl
       have hle : ((nl : Int) == 0) = false := beq_eq_false_iff_ne.2 (by omega)
       have hle2 : ¬ (nl : Int) = 0 := by omega
       clear hZ' hL0
       by_cases hc : low + gap < y
       ·have hst := hid (hN.out hc)
        have hmx : max (y + bh) (y + bh) = y + bh := by omega
        have hvl : vs.length ≤ 1000000 := by rw [hG.len]; omega
        have hGx := hG.below ((Below.refl _ _).alloc (Nat.le_refl _) (.cells #[.slice A10 nl c10] 56))
        have hOx := hO.below ((Below.refl _ _).alloc (Nat.le_refl _) (.cells #[.slice A10 nl c10] 56))
        have hox := hGx.out
        have hbx := hb.alloc hz (.cells #[.slice A10 nl c10] 56)
        have co := keep_alloc (b := .cells #[.slice A10 nl c10] 56) co
        have d1 := keep_alloc (b := .cells #[.slice A10 nl c10] 56) d1
        have d3 := keep_alloc (b := .cells #[.slice A10 nl c10] 56) d3
        clear hN hO' hG hO hb
        go_upto_region 18 with (at_builtin; go_loud (refine wpList_appV rfl (.tmp 53) (.tmp 56) 51 56 (.agg #[.slice none 0 0]) 24 (by omega) rfl Try.underlying51 infoGr rfl w4.heap.size u9 vs (.slice A10 nl c10) v1.heap.size rfl hox rfl (at_one rfl) rfl hvl (by simp; omega) ?_); intro v5 w5 hO5 hg5 hat5)
        have hG5 := hGx.push hO5 hg5 hat5 hOx (fun j h => hap.sym j h) hap
        have hb5 := Below.grown hbx hg5 (by simp; omega) (fun b e => (World.ownsRow.lt hox b e).1)
        have co := hg5.cell co (fun e => by have := (World.ownsRow.lt hox _ e.symm).1; dsimp only at this; omega)
        have d1 := hg5.cell d1 (fun e => by have := (hu9.out _ e.symm).2; dsimp only at this; omega)
        have d3 := hg5.cell d3 (fun e => by have := (hu9.out _ e.symm).2; dsimp only at this; omega)
        have hz5 : w4.heap.size ≤ w5.heap.size := by have := hg5.size; simp at this; omega
        have hOn := OwnZ.nil w5 w4.heap.size
        have hOy := hOn.below ((Below.refl _ _).alloc (Nat.le_refl _) (.cells #[.int .i64 (a : Int)] 3))
        have hGy := hG5.below ((Below.refl _ _).alloc (Nat.le_refl _) (.cells #[.int .i64 (a : Int)] 3))
        have hby := hb5.alloc hz5 (.cells #[.int .i64 (a : Int)] 3)
        have hap6 := Apart.nil v5 (vs ++ [.slice A10 nl c10])
        clear hO5 hg5 hat5 hGx hOx hox hbx hap hG5 hb5 hOn
        go_wp2_with (at_builtin; go_loud (refine wpList_app1 rfl (.tmp 73) (.tmp 78) rfl w4.heap.size _ [] a w5.heap.size rfl hOy rfl (at_one rfl) (by simp) (by simp; omega) ?_); intro v7 w7 hO7 hg7 hat7; have hb7 := hid (Below.grownZ hby hOy hg7 (by simp; omega) (Nat.le_refl _)); have hG7 := hid (hGy.growO hap6 hg7); have hap7 := hid (hap6.grow hGy hat7); have hO7 := hid hO7; have hz7 := hid (show w4.heap.size ≤ w7.heap.size from by have := hg7.size; simp at this; omega); clear hg7 hat7 hGy hOy hby hap6)
        refine ⟨⟨j + 1, _, y + bh, Ls ++ [now], [a], by go_num, by omega, rfl, hst, hid ⟨fun h => by simp at h, fun h => by omega⟩, hid (fun h => by omega), hG7.out, hO7.out, hap7.out, by simp; omega, by simp, by omega, by omega, hb7.out, hz7.out⟩, by simp [intOf]; omega⟩
       ·have hst := hid (hO'.out hc)
        obtain ⟨em, hem⟩ : ∃ z, max low (y + bh) = z := ⟨_, rfl⟩
        rw [hem] at hst
        have hb1 : -8192 ≤ em ∧ em ≤ 8192 := by omega
        have hOx := hO.below ((Below.refl _ _).alloc (Nat.le_refl _) (.cells #[.int .i64 (a : Int)] 3))
        have hGx := hG.below ((Below.refl _ _).alloc (Nat.le_refl _) (.cells #[.int .i64 (a : Int)] 3))
        have hbx := hb.alloc hz (.cells #[.int .i64 (a : Int)] 3)
        have hnl6 : now.length ≤ 1000000 := by rw [hnl.out]; omega
        clear hN hO' hG hO hb
        go_wp2_with (at_builtin; go_loud (refine wpList_app1 rfl (.tmp 73) (.tmp 78) rfl w4.heap.size _ now a v1.heap.size rfl hOx rfl (at_one rfl) hnl6 (by simp; omega) ?_); intro v5 w5 hO5 hg5 hat5; have hb5 := hid (Below.grownZ hbx hOx hg5 (by simp; omega) (Nat.le_refl _)); have hG5 := hid (hGx.growO hap hg5); have hap5 := hid (hap.grow hGx hat5); have hO5 := hid hO5; have hz5 := hid (show w4.heap.size ≤ w5.heap.size from by have := hg5.size; simp at this; omega); clear hg5 hat5 hGx hOx hbx hap)
        refine ⟨⟨j + 1, vs, em, Ls, now ++ [a], by go_num, by omega, rfl, hst, hid ⟨fun h => by simp at h, fun h => by omega⟩, hid (fun h => by omega), hG5.out, hO5.out, hap5.out, by omega, by rw [List.length_append, hnl.out]; simp; omega, hb1.1, hb1.2, hb5.out, hz5.out⟩, by simp [intOf]; omega⟩
     ·obtain rfl : j = i := by omega
      have hjj : ¬ (j : Int) < (j : Int) := by omega
      have hRe : R = ((refS low Ls now).L, 0) := by
       rw [hRR.out, ← hS.out, List.take_of_length_le (by have := hDl.out; omega)]
      obtain ⟨A10, c10, hv10⟩ := hO.form
      subst hv10
      by_cases hj0 : now = []
      ·subst hj0
       have hRe2 : R = (Ls, 0) := by rw [hRe]; rfl
       subst hRe2
       have hC := hid (Rlists_g Ls _ hG.zls (by omega))
       have hB2 := bel_step HB4 hb
       clear hRR hRe hG hO hap hS hRc hDlt hok2
       go_wp2_with fail
       refine hC.out.mono ?_
       rintro e w5 ⟨v5, rfl, hz5, hb5⟩
       have hres := hid (show RetLE w Ls 0 (.returned (.tuple #[v5, .int .i64 0])) w5 from ⟨_, rfl, hz5, bel_step hB2 hb5⟩)
       clear hz5 hb5 hC
       go_wp2
       refine bodyPost_ret (v := .tuple #[v5, .int .i64 0]) ?_ rfl ?_
       ·simp [results, Try.results21, go_sem]
       ·exact hres.out
      ·have hRe2 : R = (Ls ++ [now], 0) := by rw [hRe]; unfold refS; simp [hj0]
       have hlen0 : now.length ≠ 0 := fun h => hj0 (List.eq_nil_of_length_eq_zero h)
       obtain ⟨nl, hnl⟩ : ∃ z, now.length = z := ⟨_, rfl⟩
       rw [hnl] at hlen0 hap hO hnj ⊢
       replace hnl := hid hnl
       have hle : (0 : Int) < (nl : Int) := by omega
       have hvl : vs.length ≤ 1000000 := by rw [hG.len]; omega
       have hGx := hG.below ((Below.refl _ _).alloc (Nat.le_refl _) (.cells #[.slice A10 nl c10] 56))
       have hOx := hO.below ((Below.refl _ _).alloc (Nat.le_refl _) (.cells #[.slice A10 nl c10] 56))
       have hox := hGx.out
       have hbx := hb.alloc hz (.cells #[.slice A10 nl c10] 56)
       subst hRe2
       clear hRR hRe hG hO hS hRc hDlt hok2 hb
       go_upto_region 25 with (at_builtin; go_loud (refine wpList_appV rfl (.tmp 83) (.tmp 86) 51 56 (.agg #[.slice none 0 0]) 24 (by omega) rfl Try.underlying51 infoGr rfl w4.heap.size u9 vs (.slice A10 nl c10) wr.heap.size rfl hox rfl (at_one rfl) rfl hvl (by simp; omega) ?_); intro v5 w5 hO5 hg5 hat5)
       have hG5 := hGx.push hO5 hg5 hat5 hOx (fun j h => hap.sym j h) hap
       have hb5 := Below.grown hbx hg5 (by simp; omega) (fun b e => (World.ownsRow.lt hox b e).1)
       have hC := hid (Rlists_g (Ls ++ [now]) _ hG5.zls (by simp; omega))
       have hB2 := bel_step HB4 hb5
       clear hO5 hg5 hat5 hGx hOx hox hbx hap hG5 hb5
       go_wp2_with fail
       refine hC.out.mono ?_
       rintro e w6 ⟨v6, rfl, hz6, hb6⟩
       have hres := hid (show RetLE w (Ls ++ [now]) 0 (.returned (.tuple #[v6, .int .i64 0])) w6 from ⟨_, rfl, hz6, bel_step hB2 hb6⟩)
       clear hz6 hb6 hC
       go_wp2
       refine bodyPost_ret (v := .tuple #[v6, .int .i64 0]) ?_ rfl ?_
       ·simp [results, Try.results21, go_sem]
       ·exact hres.out
 ·obtain rfl := E1.out hk0
  clear E1 E0 E2 HI
  go_wp2
  refine bodyPost_ret (v := .tuple #[.slice none 0 0, .int .i64 k]) ?_ rfl ?_
  ·simp [results, Try.results21, go_sem]
  ·exact ⟨_, rfl, Zls.nil _, HB⟩
end Go.Proofs.Ytjdgjhaggpahkaa
