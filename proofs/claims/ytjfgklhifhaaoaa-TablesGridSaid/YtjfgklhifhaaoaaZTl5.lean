/- Tables: the law Grid. Conditions: none. -/
import Derived.Deep.CutBlock
import Derived.Test.YtjfgklhifhaaoaaZTw27
import Derived.Test.YtjfgklhifhaaoaaZTw28
import Derived.Test.YtjfgklhifhaaoaaZTr5
import Derived.Test.YtjfgklhifhaaoaaZPG
set_option linter.unusedVariables false
set_option linter.unusedSimpArgs false
namespace Go.Proofs.Ytjfgklhifhaaoaa
open Go.RowKit
theorem own_noneB {u : World} : BoK.Own (u.alloc (.cells #[] 4)) u.heap.size (.slice (some ⟨u.heap.size, 0, none⟩) 0 0) [] :=
 ⟨rfl, .inr ⟨u.heap.size, 0, #[], rfl, Nat.le_refl _, by show (u.heap.push _)[u.heap.size]? = _; simp; rfl, Nat.le_refl _, by unfold maxLen; omega, rfl, rfl⟩⟩
theorem rng_setI {w : World} {g i : Nat} {cs : List Value} {x : Value} (h : w.rangeAt g 0 cs) (hi : i < cs.length) : (w.setCell ⟨g, i, none⟩ x).rangeAt g 0 (cs.set i x) := fun j v hv => by
 rw [List.getElem?_set] at hv
 have e : 0 + j = j := Nat.zero_add j
 by_cases hij : i = j
 ·subst hij
  rw [if_pos rfl, if_pos hi] at hv
  obtain rfl := Option.some.inj hv
  have h0 := h i cs[i] (by simp [hi])
  rw [Nat.zero_add] at h0 ⊢
  exact at_set h0
 ·rw [if_neg hij] at hv
  have h0 := h j v hv
  rw [Nat.zero_add] at h0 ⊢
  exact (cell_set_ne hij).trans h0
section
variable {P : Program} {ops : Array Oper} {Q : Exit → Act → World → Prop} {md : Region.Mode} {S : World → Prop} {x : Nat}
theorem Ords.takeK {i : Nat} {o : Oper} {v : Value} {n : Nat} {d : Array Bool} {a : Act} {w : World} (hi : ops[i]? = some o) (hB : (Region.noSelect ops && (Region.free md ops d i && ((Region.ready md ops d).contains i && waitsFor md ops x i))) = true)
  (hQ : ∀ c a w, Q (.panic c) (a.put o.dst v) w → Q (.panic c) a w) (hy : YieldsIf P ops S o v a) (hS : S w) (h : Ords P md ops Q S x n (d.setIfInBounds i true) (a.put o.dst v) w) : Ords P md ops Q S x (n + 1) d a w := by
 simp only [Bool.and_eq_true] at hB
 exact Ords.take hi hB.1 hB.2.1 hB.2.2.1 hB.2.2.2 hQ hy hS h
end
/-- the wanted table that is being made -/
structure WaT (x w : World) (gT : Nat) (a b vC : Value) (L : List Ce) : Prop where
 bt : But2 x w gT gT
 c0 : w.cell? ⟨gT, 0, none⟩ = some a
 c1 : w.cell? ⟨gT, 1, none⟩ = some b
 c2 : w.cell? ⟨gT, 2, none⟩ = some vC
 z : Zn w gT
 o : CeK.Own w x.heap.size vC L
theorem WaT.below {x w w' : World} {gT : Nat} {a b vC : Value} {L : List Ce} (h : WaT x w gT a b vC L) (hb : Below w.heap.size w w') : WaT x w' gT a b vC L := ⟨h.bt.below hb, keep_cell hb h.c0, keep_cell hb h.c1, keep_cell hb h.c2, h.z.below hb, h.o.below hb⟩
theorem WaT.app {x w w' : World} {gT : Nat} {a b vC v' : Value} {L m : List Ce} (h : WaT x w gT a b vC L) (hT : gT < x.heap.size) (hO : CeK.Own w' x.heap.size v' m) (hg : w.grownBy w' vC.ownBlock) : w'.cell? ⟨gT, 2, none⟩ = some vC ∧ Zn w' gT ∧ WaT x (w'.setCell ⟨gT, 2, none⟩ v') gT a b v' m := by
 have ne : some gT ≠ vC.ownBlock := fun e => by have := (h.o.lt e.symm).1; omega
 have hb := h.bt.grow hg (fun k e => .inl (h.o.lt e).1)
 have h2 := hg.cell h.c2 ne
 have hz := h.z.grownK hg ne
 exact ⟨h2, hz, hb.set (.inr (.inr rfl)), (cell_set_ne (by omega)).trans (hg.cell h.c0 ne), (cell_set_ne (by omega)).trans (hg.cell h.c1 ne), at_set h2, hz.set_, hO.grown gb_set (.inr fun e => by have := (hO.lt e).1; omega)⟩
theorem own_none {u : World} : InK.Own (u.alloc (.cells #[] 3)) u.heap.size (.slice (some ⟨u.heap.size, 0, none⟩) 0 0) [] :=
 ⟨rfl, .inr ⟨u.heap.size, 0, #[], rfl, Nat.le_refl _, by show (u.heap.push _)[u.heap.size]? = _; simp; rfl, Nat.le_refl _, by unfold maxLen; omega, rfl, rfl⟩⟩
set_option maxRecDepth 100000 in
set_option maxHeartbeats 60000000 in
theorem Grid49_law (ws hs : List Int) (A B : Option Addr) (ca cb : Nat) (o0 o1 o2 o3 t : Int) {w : World} (hws : InK.Rd w A ca ws) (hhs : InK.Rd w B cb hs) :
  Calls Try.prog 3 #[.slice A ws.length ca, .slice B hs.length cb, .agg #[.int .i64 o0, .int .i64 o1, .int .i64 o2, .int .i64 o3, .int .i64 t]] w (RetB w true) := by
 obtain ⟨n, hn⟩ : ∃ n, ws.length = n := ⟨_, rfl⟩
 obtain ⟨m, hm⟩ : ∃ n, hs.length = n := ⟨_, rfl⟩
 have hc1 := Nat.le_trans hws.cap hws.max
 have hc2 := Nat.le_trans hhs.cap hhs.max
 have hR1 := hid fun (W : World) (hb : Below w.heap.size w W) => hws.below hb
 have hR2 := hid fun (W : World) (hb : Below w.heap.size w W) => hhs.below hb
 rw [hn] at hc1 ⊢
 rw [hm] at hc2 ⊢
 replace hn := hid hn
 replace hm := hid hm
 clear hws hhs
 go_enter Try.func3, Try.ntmps3
 go_upto_region 1 with fail
 refine enterR (P := fun u => Code.wp _ _ _ _ u) (c := [.int .i64 o0, .int .i64 o1, .int .i64 o2, .int .i64 o3, .int .i64 t]) ?_
 intro u HB r0 zn0 hsz
 have a0 : u.cell? ⟨w.heap.size, 0, none⟩ = some (.int .i64 o0) := r0 0 _ rfl
 have a1 : u.cell? ⟨w.heap.size, 1, none⟩ = some (.int .i64 o1) := r0 1 _ rfl
 have a2 : u.cell? ⟨w.heap.size, 2, none⟩ = some (.int .i64 o2) := r0 2 _ rfl
 have a3 : u.cell? ⟨w.heap.size, 3, none⟩ = some (.int .i64 o3) := r0 3 _ rfl
 have a4 : u.cell? ⟨w.heap.size, 4, none⟩ = some (.int .i64 t) := r0 4 _ rfl
 clear r0 zn0 hsz
 go_upto_region 2 with fail
 clear a4
 by_cases g1 : n < 1
 ·have g1i : (n : Int) < 1 := by omega
  clear hR1 hR2
  go_wp2_with fail
  refine (alive_ok _).mono ?_
  rintro e wa ⟨rfl, hva⟩
  replace HB := bel_step HB hva
  go_wp2
  go_ret
  exact ⟨rfl, HB⟩
 ·have g1i : ¬ (n : Int) < 1 := by omega
  by_cases g2 : m < 1
  ·have g2i : (m : Int) < 1 := by omega
   clear hR1 hR2
   go_wp2_with fail
   refine (alive_ok _).mono ?_
   rintro e wa ⟨rfl, hva⟩
   replace HB := bel_step HB hva
   go_wp2
   go_ret
   exact ⟨rfl, HB⟩
  ·have g2i : ¬ (m : Int) < 1 := by omega
   by_cases g3 : 6 < n
   ·have g3i : (6 : Int) < (n : Int) := by omega
    clear hR1 hR2
    go_wp2_with fail
    refine (alive_ok _).mono ?_
    rintro e wa ⟨rfl, hva⟩
    replace HB := bel_step HB hva
    go_wp2
    go_ret
    exact ⟨rfl, HB⟩
   ·have g3i : ¬ (6 : Int) < (n : Int) := by omega
    by_cases g4 : 6 < m
    ·have g4i : (6 : Int) < (m : Int) := by omega
     clear hR1 hR2
     go_wp2_with fail
     refine (alive_ok _).mono ?_
     rintro e wa ⟨rfl, hva⟩
     replace HB := bel_step HB hva
     go_wp2
     go_ret
     exact ⟨rfl, HB⟩
    ·have g4i : ¬ (6 : Int) < (m : Int) := by omega
     by_cases g5 : t < 1
     ·clear hR1 hR2
      go_wp2_with fail
      refine (alive_ok _).mono ?_
      rintro e wa ⟨rfl, hva⟩
      replace HB := bel_step HB hva
      go_wp2
      go_ret
      exact ⟨rfl, HB⟩
     ·by_cases g6 : 4 < t
      ·clear hR1 hR2
       go_wp2_with fail
       refine (alive_ok _).mono ?_
       rintro e wa ⟨rfl, hva⟩
       replace HB := bel_step HB hva
       go_wp2
       go_ret
       exact ⟨rfl, HB⟩
      ·have hBA : Below u.heap.size u (u.alloc (.cells #[] 3)) := (Below.refl _ _).alloc (Nat.le_refl _) _
       have hBA2 := bel_step HB hBA
       have hus := HB.size
       have hO0 : InK.Own (u.alloc (.cells #[] 3)) u.heap.size (.slice (some ⟨u.heap.size, 0, none⟩) 0 0) [] := own_none
       have hw1 := hR1.out _ hBA2
       have hwl : ws.length ≤ 100000000 := by have := hn.out; omega
       have hhl : hs.length ≤ 100000000 := by have := hm.out; omega
       have hll : ([] ++ ws : List Int).length ≤ 100000000 := by simpa using hwl
       go_wp2_with (at_builtin; first | (refine Knd.appr InKo rfl (.tmp 62) (.tmp 63) rfl u.heap.size _ A n ca [] ws rfl hO0 rfl hn.out hw1 (by simp) hwl (by simp) ?_; intro v1 w1 hO1 hg1 hat1; have hb1 := Knd.grown hBA hO0 hg1 (by simp) (Nat.le_refl _); have hw2 := hR2.out _ (bel_step HB hb1); have hs1 := hb1.size) | (refine Knd.appr InKo rfl (.tmp 64) (.tmp 65) rfl u.heap.size v1 B m cb ([] ++ ws) hs rfl hO1 rfl hm.out hw2 hll hhl hs1 ?_; intro v2 w2 hO2 hg2 hat2; have hb2 := Knd.grown hb1 hO1 hg2 hs1 (Nat.le_refl _); obtain ⟨A5, c5, rfl⟩ := hO2.form InKo; obtain ⟨hr5, -⟩ := hO2.rd2 InKo; have hL5 : (([] ++ ws) ++ hs : List Int).length = n + m := (by rw [List.length_append, List.nil_append, hn.out, hm.out]); rw [hL5]))
       have hmem := hid (fun (P : Int → Prop) (h : ∀ z ∈ ([] ++ ws) ++ hs, P z) => (show (∀ z ∈ ws, P z) ∧ ∀ z ∈ hs, P z from ⟨fun z hz => h z (by simp [hz]), fun z hz => h z (by simp [hz])⟩))
       generalize [] ++ ws ++ hs = L at *
       have HB2 := bel_step HB hb2
       have cL := hr5.max
       have hcL := hr5.cap
       rw [hL5] at hcL
       have a0 := keep_cell hb2 a0
       have a1 := keep_cell hb2 a1
       have a2 := keep_cell hb2 a2
       have a3 := keep_cell hb2 a3
       have hnm : n + m ≤ 12 := by omega
       (try rw [show (n : Int) + (m : Int) = ((n + m : Nat) : Int) by omega])
       obtain ⟨N, hN⟩ : ∃ x, n + m = x := ⟨_, rfl⟩
       rw [hN] at hL5 hcL hnm
       (try rw [hN])
       have hM := hid fun (j : Nat) (hj : j < N) => hr5.at_ (j := j) (by rw [hL5]; exact hj)
       clear hg1 hg2 hat1 hat2 hO0 hO1 hO2 hw1 hw2 hb1 hb2 hBA hBA2 hr5 hwl hhl hll hs1 hus HB
       replace hL5 := hid hL5
       replace hN := hid hN
       go_loopw [68] (fun s68 wr => ∃ i : Nat, s68 = .int .i64 i ∧ i ≤ N ∧ Hid (∀ j (hj : j < L.length), j < i → t < L[j] ∧ L[j] ≤ 20) ∧ wr = w2) (fun s68 _ => N - (intOf s68).toNat)
       case atStart => exact ⟨0, rfl, by omega, hid (fun j _ h => by omega), rfl⟩
       case round =>
        obtain ⟨i, rfl, hi, hA, hwr⟩ := hrel
        rw [hwr]
        clear hwr wr
        by_cases hin : i < N
        ·have hii : (i : Int) < (N : Int) := by omega
         obtain ⟨b, o, hA3, hc⟩ := hM.out i hin
         have e0 : w2.cell? ⟨b, o + i * 1, none⟩ = some (.int .i64 (L[i]'(by have := hL5.out; omega))) := hc 0 _ rfl
         rw [Nat.mul_one] at e0
         subst hA3
         clear hc
         have HB := HB2
         have hA2 := hid (fun (h : t < L[i]'(by have := hL5.out; omega) ∧ L[i]'(by have := hL5.out; omega) ≤ 20) (j : Nat) (hj : j < L.length) (h2 : j < i + 1) => (show t < L[j] ∧ L[j] ≤ 20 from by
          by_cases e : j = i
          ·subst e; exact h
          ·exact hA.out j hj (by omega)))
         generalize L[i]'(by have := hL5.out; omega) = z at *
         by_cases z1 : z ≤ t
         ·clear hM hR1 hR2 hmem hA hA2
          go_wp2_with fail
          refine (alive_ok _).mono ?_
          rintro e wa ⟨rfl, hva⟩
          replace HB := bel_step HB hva
          go_wp2
          go_ret
          exact ⟨rfl, HB⟩
         ·by_cases z2 : 20 < z
          ·clear hM hR1 hR2 hmem hA hA2
           go_wp2_with fail
           refine (alive_ok _).mono ?_
           rintro e wa ⟨rfl, hva⟩
           replace HB := bel_step HB hva
           go_wp2
           go_ret
           exact ⟨rfl, HB⟩
          ·have hA3 := hid (hA2.out ⟨by omega, by omega⟩)
           clear hM HB hA hA2 hmem hR1 hR2
           go_wp2
           go_roundw
           case rel => exact ⟨i + 1, by go_num, by omega, hA3, by first | rfl | trivial⟩
           case measure => simp [intOf]; omega
        ·obtain rfl : i = N := by omega
         have hii : ¬ (i : Int) < (i : Int) := by omega
         obtain ⟨hws, hhs⟩ := hmem.out (fun z => t < z ∧ z ≤ 20) (fun z hz => by
          obtain ⟨j, hj, rfl⟩ := List.getElem_of_mem hz
          exact hA.out j hj (by have := hL5.out; omega))
         clear hM hmem hA hL5
         obtain ⟨T, rfl⟩ : ∃ T : Nat, t = (T : Int) := ⟨t.toNat, by omega⟩
         have hw1 := hR1.out w2 HB2
         have hw2 := hR2.out w2 HB2
         obtain ⟨xs, ys, W, H, D, hdr, hxs, hys, hWH, hDl, hx4, hy4, hxm, hym, hall⟩ := grid_pack (t := T) (by omega) (by omega) hws hhs (by have := hn.out; omega) (by have := hn.out; omega) (by have := hm.out; omega) (by have := hm.out; omega)
         have H1 := hid (show Calls Try.prog 6 #[.slice A n ca, .slice B m cb, .int .i64 (T : Int)] w2 (RetBE w2 (⟨(W : Int), (H : Int), D⟩, 0)) from by
          have := TDraw_g ws hs A B ca cb (T : Int) hw1 hw2 (by have := hn.out; have := hm.out; omega)
          rw [hn.out, hm.out, hdr] at this; exact this)
         have H2 := hid fun (V : World) (hb : Below w.heap.size w V) => (show Calls Try.prog 7 #[.slice A n ca, .int .i64 (T : Int)] V (InK.Ret V (edgL ws T n)) from by
          have := Ledg_g ws A ca (T : Int) (hR1.out V hb) (fun x hx => by have := hws x hx; omega) (by omega) (by omega) (by have := hn.out; omega)
          rw [hn.out] at this; exact this)
         have H3 := hid fun (V : World) (hb : Below w.heap.size w V) => (show Calls Try.prog 7 #[.slice B m cb, .int .i64 (T : Int)] V (InK.Ret V (edgL hs T m)) from by
          have := Ledg_g hs B cb (T : Int) (hR2.out V hb) (fun x hx => by have := hhs x hx; omega) (by omega) (by omega) (by have := hm.out; omega)
          rw [hm.out] at this; exact this)
         rw [hn.out] at hxs hWH hx4 hxm hall
         rw [hm.out] at hys hWH hy4 hym hall
         have hgX := hid fun (j : Nat) (hj : j ≤ n) (h : j < (edgL ws T n).length) => (show (edgL ws T n)[j] = (xs j : Int) from (edgL_at ws T n j h).trans (hxs j hj))
         have hgY := hid fun (j : Nat) (hj : j ≤ m) (h : j < (edgL hs T m).length) => (show (edgL hs T m)[j] = (ys j : Int) from (edgL_at hs T m j h).trans (hys j hj))
         have hlX := hid (edgL_len ws T n)
         have hlY := hid (edgL_len hs T m)
         generalize edgL ws T n = EX at *
         generalize edgL hs T m = EY at *
         obtain ⟨hWx, hHy⟩ := hWH
         have hWn : W ≤ 148 := by have := hx4 n (Nat.le_refl _); omega
         have hHn : H ≤ 148 := by have := hy4 m (Nat.le_refl _); omega
         have hW1 : 1 ≤ W := by omega
         have hH1 : 1 ≤ H := by omega
         have hwWx : IntKind.i64.wrap ((xs n : Int) + (T : Int)) = (W : Int) := by rw [IntKind.wrap_i64]; omega
         have hwHy : IntKind.i64.wrap ((ys m : Int) + (T : Int)) = (H : Int) := by rw [IntKind.wrap_i64]; omega
         replace hall := hid hall
         replace hDl := hid hDl
         replace hx4 := hid hx4
         replace hy4 := hid hy4
         replace hxm := hid hxm
         replace hym := hid hym
         replace hWx := hid hWx
         replace hHy := hid hHy
         clear hw1 hw2 hdr hxs hys hws hhs hR1 hR2 hn hm
         go_wp2_with fail
         refine H1.out.mono ?_
         rintro e v3 ⟨A1, c1, rfl, hr1, hv⟩
         have HB := bel_step HB2 hv
         replace a0 := keep_cell hv a0
         replace a1 := keep_cell hv a1
         replace a2 := keep_cell hv a2
         replace a3 := keep_cell hv a3
         clear HB2 hv H1
         dsimp only at hr1 ⊢
         have hd1 := Nat.le_trans hr1.cap hr1.max
         obtain ⟨nd, hnd⟩ : ∃ x, D.length = x := ⟨_, rfl⟩
         rw [hnd] at hd1
         rw [hnd]
         replace hnd := hid hnd
         go_upto_region 11 with fail
         refine enterR (P := fun u => Code.wp _ _ _ _ u) (c := [.int .i64 (W : Int), .int .i64 (H : Int), .slice A1 nd c1]) ?_
         intro v4 hv r0 zn0 hsz
         replace HB := bel_step HB hv
         replace a0 := keep_cell hv a0
         replace a1 := keep_cell hv a1
         replace a2 := keep_cell hv a2
         replace a3 := keep_cell hv a3
         replace hr1 := hr1.below hv
         have b0 : v4.cell? ⟨v3.heap.size, 0, none⟩ = some (.int .i64 (W : Int)) := r0 0 _ rfl
         have b1 : v4.cell? ⟨v3.heap.size, 1, none⟩ = some (.int .i64 (H : Int)) := r0 1 _ rfl
         have b2 : v4.cell? ⟨v3.heap.size, 2, none⟩ = some (.slice A1 nd c1) := r0 2 _ rfl
         clear r0 zn0 hsz hv
         obtain ⟨gm, hgm⟩ : ∃ g, v3.heap.size = g := ⟨_, rfl⟩
         rw [hgm] at b0 b1 b2 ⊢
         clear hgm
         go_wp2_with fail
         refine (H2.out v4 HB).mono ?_
         rintro e v5 ⟨v, rfl, hXo, hv⟩
         obtain ⟨gX, cX, rfl, -, hX, hX1, hX2⟩ := hXo.rw InKo (by rw [hlX.out]; omega)
         rw [hlX.out] at hX1 ⊢
         clear hXo
         replace HB := bel_step HB hv
         replace a0 := keep_cell hv a0
         replace a1 := keep_cell hv a1
         replace a2 := keep_cell hv a2
         replace a3 := keep_cell hv a3
         replace hr1 := hr1.below hv
         replace b0 := keep_cell hv b0
         replace b1 := keep_cell hv b1
         replace b2 := keep_cell hv b2
         clear hv H2
         go_wp2_with fail
         refine (H3.out v5 HB).mono ?_
         rintro e v6 ⟨v, rfl, hYo, hv⟩
         obtain ⟨gY, cY, rfl, -, hY, hY1, hY2⟩ := hYo.rw InKo (by rw [hlY.out]; omega)
         rw [hlY.out] at hY1 ⊢
         clear hYo
         replace HB := bel_step HB hv
         replace a0 := keep_cell hv a0
         replace a1 := keep_cell hv a1
         replace a2 := keep_cell hv a2
         replace a3 := keep_cell hv a3
         replace hr1 := hr1.below hv
         replace b0 := keep_cell hv b0
         replace b1 := keep_cell hv b1
         replace b2 := keep_cell hv b2
         replace hX := hX.below hv
         clear hv H3
         go_upto_region 14 with fail
         go_quiet (fail)
         have hv_ : Below v6.heap.size v6 (v6.drewN nq) := below_drewN (Below.refl _ _) _
         generalize v6.drewN nq = v7 at hv_ ⊢
         replace HB := bel_step HB hv_
         replace hr1 := hr1.below hv_
         replace b0 := keep_cell hv_ b0
         replace b1 := keep_cell hv_ b1
         replace b2 := keep_cell hv_ b2
         replace hX := hX.below hv_
         replace hY := hY.below hv_
         clear hv_ a0 a1 a2 a3
         have hXC := hid fun (V : World) (hb : Below v7.heap.size v7 V) (j : Nat) (hj : j ≤ n) => (show V.cell? ⟨gX, j, none⟩ = some (.int .i64 (xs j : Int)) from by
          have h := (hX.below hb).at_ InKo (j := j) (by rw [hlX.out]; omega) 0 _ rfl
          rw [hgX.out j hj] at h
          have e : j * InK.k = j := Nat.mul_one j
          rwa [e] at h)
         have hYC := hid fun (V : World) (hb : Below v7.heap.size v7 V) (j : Nat) (hj : j ≤ m) => (show V.cell? ⟨gY, j, none⟩ = some (.int .i64 (ys j : Int)) from by
          have h := (hY.below hb).at_ InKo (j := j) (by rw [hlY.out]; omega) 0 _ rfl
          rw [hgY.out j hj] at h
          have e : j * InK.k = j := Nat.mul_one j
          rwa [e] at h)
         clear hX hY hgX hgY hlX hlY
         clear EX EY hnm hcL hL5 hN hi hin hii cL hc1 hc2
         obtain ⟨n1, hn1⟩ : ∃ n1, n = n1 + 1 := ⟨n - 1, by omega⟩
         obtain ⟨m1, hm1⟩ : ∃ m1, m = m1 + 1 := ⟨m - 1, by omega⟩
         have hwn1 : IntKind.i64.wrap ((n : Int) - 1) = (n1 : Int) := by rw [IntKind.wrap_i64]; omega
         have hwm1 : IntKind.i64.wrap ((m : Int) - 1) = (m1 : Int) := by rw [IntKind.wrap_i64]; omega
         replace hn1 := hid hn1
         replace hm1 := hid hm1
         go_upto_region 15 with fail
         go_cut [18] from 104 to 131 (fun s18 wx => (∃ sp1 : Bool, s18 = .bool sp1 ∧ (sp1 = true → (0 ≤ o0 ∧ o0 ≤ o1 ∧ o1 < (m : Int)) ∧ 0 ≤ o2 ∧ o2 ≤ o3 ∧ o3 < (n : Int))) ∧ wx = v7)
         case first =>
          as_aux_lemma =>
           clear hXC hYC hall hx4 hy4 hxm hym hr1 b0 b1 b2
           by_cases q0 : 0 ≤ o0
           ·by_cases q1 : o0 ≤ o1
            ·by_cases q2 : o1 < (m : Int)
             ·by_cases q3 : 0 ≤ o2
              ·by_cases q4 : o2 ≤ o3
               ·by_cases q5 : o3 < (n : Int)
                ·go_wp2_with fail
                 go_meet
                 exact ⟨⟨true, rfl, fun _ => ⟨⟨q0, q1, q2⟩, q3, q4, q5⟩⟩, rfl⟩
                ·skip
                 go_wp2_with fail
                 go_meet
                 exact ⟨⟨false, rfl, fun h => by cases h⟩, rfl⟩
               ·skip
                go_wp2_with fail
                go_meet
                exact ⟨⟨false, rfl, fun h => by cases h⟩, rfl⟩
              ·skip
               go_wp2_with fail
               go_meet
               exact ⟨⟨false, rfl, fun h => by cases h⟩, rfl⟩
             ·skip
              go_wp2_with fail
              go_meet
              exact ⟨⟨false, rfl, fun h => by cases h⟩, rfl⟩
            ·skip
             go_wp2_with fail
             go_meet
             exact ⟨⟨false, rfl, fun h => by cases h⟩, rfl⟩
           ·skip
            go_wp2_with fail
            go_meet
            exact ⟨⟨false, rfl, fun h => by cases h⟩, rfl⟩
         case rest =>
          obtain ⟨⟨sp1, rfl, hsp1⟩, hwc⟩ := hcut
          rw [hwc]
          clear hwc wc
          replace hsp1 := hid hsp1
          go_upto_region 16 with fail
          go_cut [161] from 132 to 161 (fun s161 wx => (∃ dg : Bool, s161 = .bool dg ∧ (dg = false → (o0 < o1 → ¬ (o2 = 0 ∧ o3 = (n1 : Int))) ∧ (o2 < o3 → ¬ (o0 = 0 ∧ o1 = (m1 : Int))))) ∧ wx = v7)
          case first =>
           as_aux_lemma =>
            clear hXC hYC hall hx4 hy4 hxm hym hr1 b0 b1 b2 hwWx hwHy hX1 hX2 hY1 hY2 hd1
            by_cases p1 : o0 < o1 ∧ o2 = 0 ∧ o3 = (n1 : Int)
            ·obtain ⟨p2, p3, p4⟩ := p1
             subst p3 p4
             go_wp2_with fail
             go_meet
             exact ⟨⟨true, rfl, fun h => by cases h⟩, rfl⟩
            ·obtain ⟨d1, hd1, hp1⟩ : ∃ d1 : Bool, d1 = decide (o2 < o3 ∧ o0 = 0 ∧ o1 = (m1 : Int)) ∧ (d1 = false → (o2 < o3 → ¬ (o0 = 0 ∧ o1 = (m1 : Int)))) := ⟨_, rfl, fun h h1 h2 => of_decide_eq_false h ⟨h1, h2⟩⟩
             have hP : d1 = false → (o0 < o1 → ¬ (o2 = 0 ∧ o3 = (n1 : Int))) ∧ (o2 < o3 → ¬ (o0 = 0 ∧ o1 = (m1 : Int))) := fun h => ⟨fun h1 h2 => p1 ⟨h1, h2⟩, hp1 h⟩
             replace hP := hid hP
             clear hp1
             by_cases p2 : o0 < o1
             ·have p3 : ¬ (o2 = 0 ∧ o3 = (n1 : Int)) := fun h => p1 ⟨p2, h⟩
              clear p1
              by_cases p4 : o2 = 0
              ·have p5 : (o3 == (n1 : Int)) = false := by rw [beq_eq_false_iff_ne]; exact fun h => p3 ⟨p4, h⟩
               have p6 : (o2 == 0) = true := by rw [beq_iff_eq]; exact p4
               clear p3 p4
               by_cases r1 : o2 < o3
               ·by_cases r2 : o0 = 0
                ·have r3 : (o0 == 0) = true := by rw [beq_iff_eq]; exact r2
                 by_cases r4 : o1 = (m1 : Int)
                 ·have r5 : (o1 == (m1 : Int)) = true := by rw [beq_iff_eq]; exact r4
                  obtain rfl : d1 = true := hd1.trans (decide_eq_true ⟨r1, r2, r4⟩)
                  clear r2 r4 hd1
                  go_wp2_with fail
                  go_meet
                  exact ⟨⟨_, rfl, fun _ => hP.out (by first | rfl | trivial)⟩, rfl⟩
                 ·have r5 : (o1 == (m1 : Int)) = false := by rw [beq_eq_false_iff_ne]; exact r4
                  obtain rfl : d1 = false := hd1.trans (decide_eq_false fun h => r4 h.2.2)
                  clear r2 r4 hd1
                  go_wp2_with fail
                  go_meet
                  exact ⟨⟨_, rfl, fun _ => hP.out (by first | rfl | trivial)⟩, rfl⟩
                ·have r3 : (o0 == 0) = false := by rw [beq_eq_false_iff_ne]; exact r2
                 obtain rfl : d1 = false := hd1.trans (decide_eq_false fun h => r2 h.2.1)
                 clear r2 hd1
                 go_wp2_with fail
                 go_meet
                 exact ⟨⟨_, rfl, fun _ => hP.out (by first | rfl | trivial)⟩, rfl⟩
               ·obtain rfl : d1 = false := hd1.trans (decide_eq_false fun h => r1 h.1)
                clear hd1
                go_wp2_with fail
                go_meet
                exact ⟨⟨_, rfl, fun _ => hP.out (by first | rfl | trivial)⟩, rfl⟩
              ·have p6 : (o2 == 0) = false := by rw [beq_eq_false_iff_ne]; exact p4
               clear p3 p4
               by_cases r1 : o2 < o3
               ·by_cases r2 : o0 = 0
                ·have r3 : (o0 == 0) = true := by rw [beq_iff_eq]; exact r2
                 by_cases r4 : o1 = (m1 : Int)
                 ·have r5 : (o1 == (m1 : Int)) = true := by rw [beq_iff_eq]; exact r4
                  obtain rfl : d1 = true := hd1.trans (decide_eq_true ⟨r1, r2, r4⟩)
                  clear r2 r4 hd1
                  go_wp2_with fail
                  go_meet
                  exact ⟨⟨_, rfl, fun _ => hP.out (by first | rfl | trivial)⟩, rfl⟩
                 ·have r5 : (o1 == (m1 : Int)) = false := by rw [beq_eq_false_iff_ne]; exact r4
                  obtain rfl : d1 = false := hd1.trans (decide_eq_false fun h => r4 h.2.2)
                  clear r2 r4 hd1
                  go_wp2_with fail
                  go_meet
                  exact ⟨⟨_, rfl, fun _ => hP.out (by first | rfl | trivial)⟩, rfl⟩
                ·have r3 : (o0 == 0) = false := by rw [beq_eq_false_iff_ne]; exact r2
                 obtain rfl : d1 = false := hd1.trans (decide_eq_false fun h => r2 h.2.1)
                 clear r2 hd1
                 go_wp2_with fail
                 go_meet
                 exact ⟨⟨_, rfl, fun _ => hP.out (by first | rfl | trivial)⟩, rfl⟩
               ·obtain rfl : d1 = false := hd1.trans (decide_eq_false fun h => r1 h.1)
                clear hd1
                go_wp2_with fail
                go_meet
                exact ⟨⟨_, rfl, fun _ => hP.out (by first | rfl | trivial)⟩, rfl⟩
             ·clear p1
              by_cases r1 : o2 < o3
              ·by_cases r2 : o0 = 0
               ·have r3 : (o0 == 0) = true := by rw [beq_iff_eq]; exact r2
                by_cases r4 : o1 = (m1 : Int)
                ·have r5 : (o1 == (m1 : Int)) = true := by rw [beq_iff_eq]; exact r4
                 obtain rfl : d1 = true := hd1.trans (decide_eq_true ⟨r1, r2, r4⟩)
                 clear r2 r4 hd1
                 go_wp2_with fail
                 go_meet
                 exact ⟨⟨_, rfl, fun _ => hP.out (by first | rfl | trivial)⟩, rfl⟩
                ·have r5 : (o1 == (m1 : Int)) = false := by rw [beq_eq_false_iff_ne]; exact r4
                 obtain rfl : d1 = false := hd1.trans (decide_eq_false fun h => r4 h.2.2)
                 clear r2 r4 hd1
                 go_wp2_with fail
                 go_meet
                 exact ⟨⟨_, rfl, fun _ => hP.out (by first | rfl | trivial)⟩, rfl⟩
               ·have r3 : (o0 == 0) = false := by rw [beq_eq_false_iff_ne]; exact r2
                obtain rfl : d1 = false := hd1.trans (decide_eq_false fun h => r2 h.2.1)
                clear r2 hd1
                go_wp2_with fail
                go_meet
                exact ⟨⟨_, rfl, fun _ => hP.out (by first | rfl | trivial)⟩, rfl⟩
              ·obtain rfl : d1 = false := hd1.trans (decide_eq_false fun h => r1 h.1)
               clear hd1
               go_wp2_with fail
               go_meet
               exact ⟨⟨_, rfl, fun _ => hP.out (by first | rfl | trivial)⟩, rfl⟩
          case rest =>
           obtain ⟨⟨dg, rfl, hdg⟩, hwc⟩ := hcut
           rw [hwc]
           clear hwc wc
           replace hdg := hid hdg
           go_upto_if 161 with fail
           go_cut [18] from 18 to 18 (fun s18 wx => s18 = .bool (sp1 && !dg) ∧ wx = v7)
           case first =>
            as_aux_lemma =>
             clear hXC hYC hall hx4 hy4 hxm hym hr1 b0 b1 b2 hwWx hwHy hX1 hX2 hY1 hY2 hd1 hsp1 hdg
             cases dg
             ·go_wp2_with fail
              go_meet
              exact ⟨by rw [Bool.not_false, Bool.and_true], rfl⟩
             ·go_wp2_with fail
              go_meet
              exact ⟨by rw [Bool.not_true, Bool.and_false], rfl⟩
           case rest =>
            obtain ⟨rfl, hwc⟩ := hcut
            rw [hwc]
            clear hwc wc
            obtain ⟨sp, i0, i1, j0, j1, hsp, hso, hsc⟩ : ∃ (sp : Bool) (i0 i1 j0 j1 : Nat), (sp1 && !dg) = sp ∧ (sp = true → (o0 = (i0 : Int) ∧ o1 = (i1 : Int)) ∧ o2 = (j0 : Int) ∧ o3 = (j1 : Int)) ∧ (sp = true → ((i0 ≤ i1 ∧ i1 < m) ∧ j0 ≤ j1 ∧ j1 < n) ∧ (i0 < i1 → ¬ (j0 = 0 ∧ j1 + 1 = n)) ∧ (j0 < j1 → ¬ (i0 = 0 ∧ i1 + 1 = m))) := by
             refine ⟨_, o0.toNat, o1.toNat, o2.toNat, o3.toNat, rfl, fun h => ?_, fun h => ?_⟩
             all_goals
              rw [Bool.and_eq_true, Bool.not_eq_true'] at h
              obtain ⟨⟨s1, s2, s3⟩, s4, s5, s6⟩ := hsp1.out h.1
              obtain ⟨t1, t2⟩ := hdg.out h.2
              have := hn1.out
              have := hm1.out
             ·omega
             ·exact ⟨by omega, fun q1 q2 => t1 (by omega) (by omega), fun q1 q2 => t2 (by omega) (by omega)⟩
            rw [hsp]
            clear hsp hsp1 hdg
            obtain ⟨rl, hrl, hgr, hwi⟩ := hall.out sp i0 i1 j0 j1 hsc
            have hfin := hid (And.intro hrl (And.intro hgr hwi))
            replace hso := hid hso
            replace hsc := hid hsc
            clear hrl hgr hwi hall
            have hBA : Below v7.heap.size v7 (v7.alloc (.cells #[] 4)) := (Below.refl _ _).alloc (Nat.le_refl _) _
            have hO0 : BoK.Own (v7.alloc (.cells #[] 4)) v7.heap.size (.slice (some ⟨v7.heap.size, 0, none⟩) 0 0) [] := own_noneB
            have hrA := hr1.below hBA
            have b2 := keep_cell hBA b2
            have hnp : nd = W * H := hnd.out.symm.trans hDl.out
            have hnp1 : 1 * 1 ≤ W * H := Nat.mul_le_mul hW1 hH1
            have hnp2 : W * H ≤ 148 * 148 := Nat.mul_le_mul hWn hHn
            have hlD : D.length ≤ 100000000 := by have := hnd.out; omega
            have hwWH : IntKind.i64.wrap ((W : Int) * (H : Int)) = (nd : Int) := by rw [← Int.natCast_mul, ← hnp, IntKind.wrap_i64]; omega
            have hnd1 : 1 ≤ nd := by omega
            have hnd2 : nd ≤ 21904 := by omega
            replace hnp := hid hnp
            clear hnp1 hnp2
            go_upto_region 18 with fail
            go_wp2_with (at_builtin; (refine Knd.appr BoKo rfl (.tmp 162) (.tmp 164) rfl v7.heap.size _ A1 nd c1 [] D rfl hO0 rfl hnd.out hrA (by simp) hlD (by simp) ?_; intro v8 w8 hD hg8 hat8; have hb8 := Knd.grown hBA hO0 hg8 (by simp) (Nat.le_refl _); rw [List.nil_append] at hD; obtain ⟨g, q, rfl, hgv, hpx, hq1, hq2⟩ := own_px hD (by rw [hnd.out]; omega); rw [hnd.out] at hq1; rw [hnd.out]; have d0 := keep_cell hb8 b0; have d1 := hXC.out _ hb8 n (Nat.le_refl _); have d2 := hYC.out _ hb8 m (Nat.le_refl _); clear hat8 hg8 hD))
            clear hBA hO0 hrA b2 hr1 hlD
            have hn_ : (n : Int) < (n : Int) + 1 := by omega
            have hm_ : (m : Int) < (m : Int) + 1 := by omega
            go_quiet (fail)
            have hv_ : Below w8.heap.size w8 (w8.drewN nq) := below_drewN (Below.refl _ _) _
            generalize w8.drewN nq = w9 at hv_ ⊢
            have hb9 := bel_step hb8 hv_
            replace hpx := hpx.below hv_
            clear hn_ hm_ d0 d1 d2 hb8 hv_ hwWH hwWx hwHy
            go_upto_block 2 with fail
            obtain ⟨E, hE⟩ : ∃ E, (if sp then pntL D W (xs j0 + T) (ys i0 + T) (xs (j1 + 1)) (ys (i1 + 1)) false else D) = E := ⟨_, rfl⟩
            have hlE : E.length = nd := by
             rw [← hE]
             cases sp
             ·exact hnd.out
             ·exact (pntL_len ..).trans hnd.out
            rw [hE] at hfin
            replace hlE := hid hlE
            replace hE := hid hE
            have hR0 : PxR w9 g D w9 := PxR.refl hpx
            have hC := hid fun (V : World) (D' : List Bool) (h : PxR w9 g D' V) => (show Below v7.heap.size v7 V from hb9.trans (h.below hgv hb9.size))
            have hb0k := hid fun (V : World) (hb : Below v7.heap.size v7 V) => (show V.cell? ⟨gm, 0, none⟩ = some (.int .i64 (W : Int)) ∧ V.cell? ⟨gm, 1, none⟩ = some (.int .i64 (H : Int)) from ⟨keep_cell hb b0, keep_cell hb b1⟩)
            clear b0 b1 b2 hpx hb9
            go_cut [] from 191 to 247 (fun wx => PxR w9 g E wx)
            case first =>
             clear hfin
             cases sp
             ·have hE2 := hid hE.out
              clear hso hsc hXC hYC hx4 hy4 hxm hym
              go_wp2_with fail
              go_loopw [20] (fun s20 wr => s20 = .int .i64 0 ∧ PxR w9 g D wr) (fun _ _ => 0)
              case atStart => exact ⟨rfl, hR0⟩
              case round =>
               clear hR0
               obtain ⟨rfl, hR⟩ := hrel
               go_upto_region 22 with fail
               go_quiet (fail)
               have hR1 := hR.goes (below_drewN (Below.refl _ _) nq)
               generalize wr.drewN nq = wz at hR1 ⊢
               replace hR1 := hid (hR1.cast hE2.out)
               clear hR
               go_wp2_with fail
               go_meet
               exact hR1.out
             ·obtain ⟨⟨rfl, rfl⟩, rfl, rfl⟩ := hso.out (by first | rfl | trivial)
              obtain ⟨⟨⟨s1, s2⟩, s3, s4⟩, -⟩ := hsc.out (by first | rfl | trivial)
              as_aux_lemma =>
               have hE2 := hid hE.out
               have k1 := hym.out i0 (i1 + 1) (by omega) (by omega)
               have k2 := hxm.out j0 (j1 + 1) (by omega) (by omega)
               have k3 := hx4.out (j1 + 1) (by omega)
               have k4 := hy4.out (i1 + 1) (by omega)
               have k5 : xs (j1 + 1) ≤ W := by
                rcases Nat.lt_or_ge (j1 + 1) n with h | h
                ·have := hxm.out (j1 + 1) n h (Nat.le_refl _); have := hWx.out; omega
                ·have e : j1 + 1 = n := by omega
                 rw [e]; have := hWx.out; omega
               have k6 : ys (i1 + 1) ≤ H := by
                rcases Nat.lt_or_ge (i1 + 1) m with h | h
                ·have := hym.out (i1 + 1) m h (Nat.le_refl _); have := hHy.out; omega
                ·have e : i1 + 1 = m := by omega
                 rw [e]; have := hHy.out; omega
               have hX1 := hid fun (V : World) (hb : Below v7.heap.size v7 V) => (show V.cell? ⟨gX, j1 + 1, none⟩ = some (.int .i64 (xs (j1 + 1) : Int)) ∧ V.cell? ⟨gX, j0, none⟩ = some (.int .i64 (xs j0 : Int)) from ⟨hXC.out V hb _ (by omega), hXC.out V hb _ (by omega)⟩)
               have hY1 := hid fun (V : World) (hb : Below v7.heap.size v7 V) => (show V.cell? ⟨gY, i1 + 1, none⟩ = some (.int .i64 (ys (i1 + 1) : Int)) ∧ V.cell? ⟨gY, i0, none⟩ = some (.int .i64 (ys i0 : Int)) from ⟨hYC.out V hb _ (by omega), hYC.out V hb _ (by omega)⟩)
               clear hE hso hsc hXC hYC hx4 hy4 hxm hym hWx hHy
               obtain ⟨x1, hx1⟩ : ∃ x, xs (j1 + 1) = x := ⟨_, rfl⟩
               obtain ⟨x0, hx0⟩ : ∃ x, xs j0 = x := ⟨_, rfl⟩
               obtain ⟨y1, hy1⟩ : ∃ x, ys (i1 + 1) = x := ⟨_, rfl⟩
               obtain ⟨y0, hy0⟩ : ∃ x, ys i0 = x := ⟨_, rfl⟩
               rw [hx1] at k2 k3 k5 hX1 hE2
               rw [hx0] at k2 hX1 hE2
               rw [hy1] at k1 k4 k6 hY1 hE2
               rw [hy0] at k1 hY1 hE2
               clear hx1 hx0 hy1 hy0
               obtain ⟨I1, hI1⟩ : ∃ x, i1 + 1 = x := ⟨_, rfl⟩
               obtain ⟨J1, hJ1⟩ : ∃ x, j1 + 1 = x := ⟨_, rfl⟩
               rw [hI1] at hY1
               rw [hJ1] at hX1
               have wi1 : IntKind.i64.wrap ((i1 : Int) + 1) = (I1 : Int) := by rw [IntKind.wrap_i64]; omega
               have wj1 : IntKind.i64.wrap ((j1 : Int) + 1) = (J1 : Int) := by rw [IntKind.wrap_i64]; omega
               have li1 : (I1 : Int) < (m : Int) + 1 := by omega
               have li0 : (i0 : Int) < (m : Int) + 1 := by omega
               have lj1 : (J1 : Int) < (n : Int) + 1 := by omega
               have lj0 : (j0 : Int) < (n : Int) + 1 := by omega
               have ni1 : I1 < m + 1 := by omega
               have ni0 : i0 < m + 1 := by omega
               have nj1 : J1 < n + 1 := by omega
               have nj0 : j0 < n + 1 := by omega
               obtain ⟨yd, hyd⟩ : ∃ x : Nat, y1 = y0 + x := ⟨y1 - y0, by omega⟩
               obtain ⟨xd, hxd⟩ : ∃ x : Nat, x1 = x0 + x := ⟨x1 - x0, by omega⟩
               obtain ⟨ye, hye⟩ : ∃ x : Nat, yd = T + x := ⟨yd - T, by omega⟩
               obtain ⟨xe, hxe⟩ : ∃ x : Nat, xd = T + x := ⟨xd - T, by omega⟩
               have wy1 : IntKind.i64.wrap ((y1 : Int) - (y0 : Int)) = (yd : Int) := by rw [IntKind.wrap_i64]; omega
               have wy2 : IntKind.i64.wrap ((yd : Int) - (T : Int)) = (ye : Int) := by rw [IntKind.wrap_i64]; omega
               have wx1 : IntKind.i64.wrap ((x1 : Int) - (x0 : Int)) = (xd : Int) := by rw [IntKind.wrap_i64]; omega
               have wx2 : IntKind.i64.wrap ((xd : Int) - (T : Int)) = (xe : Int) := by rw [IntKind.wrap_i64]; omega
               obtain ⟨X, hXx⟩ : ∃ x, x0 + T = x := ⟨_, rfl⟩
               obtain ⟨Y, hYy⟩ : ∃ x, y0 + T = x := ⟨_, rfl⟩
               rw [hXx, hYy] at hE2
               have wY : IntKind.i64.wrap ((y0 : Int) + (T : Int)) = (Y : Int) := by rw [IntKind.wrap_i64]; omega
               have hxe4 : xe ≤ 144 := by omega
               have hye4 : ye ≤ 144 := by omega
               have hUx : X + xe = x1 := by omega
               have hVy : Y + ye = y1 := by omega
               have hQ0 := hid (pntP_zero D W X Y x1 y1 false)
               have hQr := hid fun y x hx => pntP_row D W X Y x1 y1 false y x hx
               have hQs := hid fun y => pntP_start D W X Y x1 y1 false y
               have hQe := hid fun y hy => (pntP_end D W X Y x1 y1 false y hy).trans hE2.out
               have hQt := hid fun y x h1 h2 h3 h4 h5 => pntP_set D W X Y x1 y1 false y x h1 h2 h3 h4 h5
               have hQl := hid fun y x => (pntP_len D W X Y x1 y1 false y x).trans hnd.out
               have hin := hid fun (x y : Nat) (hx : x < x1) (hy : y < y1) => (show y * W + x < nd ∧ y * W ≤ 21904 from by
                have h1 := px_place (W := W) (H := H) (x := x) (y := y) (by omega) (by omega)
                have h2 : y * W ≤ 148 * 148 := Nat.mul_le_mul (by omega) hWn
                rw [← hnp.out] at h1
                exact ⟨h1, by omega⟩)
               generalize pntP D W X Y x1 y1 false = Q at *
               have hR1 : PxR w9 g (Q (Y + 0) 0) w9 := hR0.cast (by rw [Nat.add_zero, hQ0.out])
               replace hyd := hid hyd
               replace hxd := hid hxd
               replace hye := hid hye
               replace hxe := hid hxe
               replace hXx := hid hXx
               replace hYy := hid hYy
               replace hUx := hid hUx
               replace hVy := hid hVy
               replace hI1 := hid hI1
               replace hJ1 := hid hJ1
               clear hE2 hR0 hQ0 k1 k2 s1 s2 s3 s4
               go_wp2_with fail
               go_loopw [20] (fun s20 wr => ∃ j : Nat, s20 = .int .i64 (j : Int) ∧ j ≤ ye ∧ PxR w9 g (Q (Y + j) 0) wr) (fun s20 _ => ye - (intOf s20).toNat)
               case atStart => exact ⟨0, rfl, by omega, hR1⟩
               case round =>
                clear hR1
                obtain ⟨j, rfl, hj, hR⟩ := hrel
                have hbr := hC.out wr _ hR
                obtain ⟨c1, c0⟩ := hY1.out wr hbr
                clear hbr
                by_cases hjn : j < ye
                ·have hji : (j : Int) < (ye : Int) := by omega
                 go_upto_region 22 with fail
                 go_quiet (fail)
                 have hb1 : Below wr.heap.size wr (wr.drewN nq) := below_drewN (Below.refl _ _) _
                 replace hR := hR.goes hb1
                 generalize wr.drewN nq = wa at hR hb1 ⊢
                 clear hb1 c1 c0
                 obtain ⟨d1, d0⟩ := hX1.out wa (hC.out wa _ hR)
                 go_upto_region 24 with fail
                 go_quiet (fail)
                 have hb1 : Below wa.heap.size wa (wa.drewN nq) := below_drewN (Below.refl _ _) _
                 replace hR := hR.goes hb1
                 generalize wa.drewN nq = wb at hR hb1 ⊢
                 clear hb1 d1 d0
                 obtain ⟨yy, hyy⟩ : ∃ x, Y + j = x := ⟨_, rfl⟩
                 have hR2 : PxR w9 g (Q yy (X + 0)) wb := hR.cast (by rw [Nat.add_zero, hQs.out, hyy])
                 have hyy1 : yy < y1 := by have := hVy.out; omega
                 have hyY : Y ≤ yy := by omega
                 have wyy : IntKind.i64.wrap ((Y : Int) + (j : Int)) = (yy : Int) := by rw [IntKind.wrap_i64]; omega
                 obtain ⟨iy, hiy⟩ : ∃ x, yy * W = x := ⟨_, rfl⟩
                 have hiy4 : iy ≤ 21904 := by
                  have h2 : yy * W ≤ 148 * 148 := Nat.mul_le_mul (by omega) hWn
                  omega
                 have wiy : IntKind.i64.wrap ((yy : Int) * (W : Int)) = (iy : Int) := by rw [← Int.natCast_mul, hiy, IntKind.wrap_i64]; omega
                 obtain ⟨ia, hia⟩ : ∃ x, iy + x0 = x := ⟨_, rfl⟩
                 obtain ⟨ib, hib⟩ : ∃ x, ia + T = x := ⟨_, rfl⟩
                 have hx0l : x0 ≤ x1 := by have := hXx.out; have := hUx.out; omega
                 have wia : IntKind.i64.wrap ((iy : Int) + (x0 : Int)) = (ia : Int) := by rw [IntKind.wrap_i64]; omega
                 have wib : IntKind.i64.wrap ((ia : Int) + (T : Int)) = (ib : Int) := by rw [IntKind.wrap_i64]; omega
                 have hibX : ib = iy + X := by have := hXx.out; omega
                 have hib4 : ib ≤ 100000 := by omega
                 replace hiy := hid hiy
                 replace hibX := hid hibX
                 replace hyy := hid hyy
                 replace hyY := hid hyY
                 clear hR hia hib hx0l hiy4
                 go_wp2_with fail
                 go_loopw [222] (fun s222 wr => ∃ i : Nat, s222 = .int .i64 (i : Int) ∧ i ≤ xe ∧ PxR w9 g (Q yy (X + i)) wr) (fun s222 _ => xe - (intOf s222).toNat)
                 case atStart => exact ⟨0, rfl, by omega, hR2⟩
                 case round =>
                  clear hR2
                  obtain ⟨i, rfl, hi, hR⟩ := hrel
                  by_cases hxi : i < xe
                  ·have hii : (i : Int) < (xe : Int) := by omega
                   obtain ⟨xx, hxx⟩ : ∃ x, X + i = x := ⟨_, rfl⟩
                   rw [hxx] at hR
                   have hxx1 : xx < x1 := by have := hUx.out; omega
                   obtain ⟨ix, hix⟩ : ∃ x, yy * W + xx = x := ⟨_, rfl⟩
                   have hix1 : ix < nd := by have := (hin.out xx yy hxx1 hyy1).1; omega
                   have hix2 : ib + i = ix := by have := hibX.out; have := hiy.out; omega
                   have wix : IntKind.i64.wrap ((ib : Int) + (i : Int)) = (ix : Int) := by rw [IntKind.wrap_i64]; omega
                   have hix3 : (ix : Int) < (nd : Int) := by omega
                   obtain ⟨c1, c0⟩ := hY1.out wr (hC.out wr _ hR)
                   obtain ⟨d1, d0⟩ := hX1.out wr (hC.out wr _ hR)
                   obtain ⟨e0, -⟩ := hb0k.out wr (hC.out wr _ hR)
                   have hlq := hQl.out yy xx
                   have hset := hQt.out yy xx (by omega) (by have := hxx; omega) hxx1 hyY.out hyy1
                   have hbd : Below wr.heap.size wr wr.drew := (Below.refl _ _).drew
                   have hR3 := hR.goes hbd
                   obtain ⟨old, hxc⟩ : ∃ v, wr.drew.cell? ⟨g, ix, none⟩ = some v := ⟨_, hR3.a.cell (j := ix) (by rw [hlq]; exact hix1)⟩
                   have hfz := hR3.a.z.fr
                   have hR4 := hR3.set (j := ix) (by rw [hlq]; exact hix1) false
                   rw [← hix, hset, hix] at hR4
                   have hx2 : X + (i + 1) = xx + 1 := by omega
                   rw [← hx2] at hR4
                   replace hR4 := hid hR4
                   clear hR hR3 hlq hset hbd hix hxx hx2 hix2 c1 d1
                   go_upto_region 27 with fail
                   refine Ords.start (x := 22) (S := fun w' => w'.cell? ⟨gY, i0, none⟩ = some (.int .i64 (y0 : Int)) ∧ w'.cell? ⟨gm, 0, none⟩ = some (.int .i64 (W : Int)) ∧ w'.cell? ⟨gX, j0, none⟩ = some (.int .i64 (x0 : Int))) (by decide +kernel) ⟨c0, e0, d0⟩ (fun hHeld => ?_)
                   clear c0 e0 d0
                   generalize wr.drew = y3 at hHeld hxc hfz hR4 ⊢
                   refine' Ords.takeK (i := 0) ?_ ?_ ?_ ?_ ?_ ?_
                   rotate_left 2
                   ·(simp only [List.getElem?_toArray, List.getElem?_cons_succ, List.getElem?_cons_zero]; rfl)
                   ·decide +kernel
                   ·exact fun _ _ _ h => h
                   ·(refine Or.inl ⟨by rfl, ?_⟩; intro w_ hSw_; (try dsimp only at hSw_); go_simp; (try with_reducible rfl))
                   ·assumption
                   (try simp only [Act.put, Lp0, Lp1, Lp2])
                   refine' Ords.takeK (i := 1) ?_ ?_ ?_ ?_ ?_ ?_
                   rotate_left 2
                   ·(simp only [List.getElem?_toArray, List.getElem?_cons_succ, List.getElem?_cons_zero]; rfl)
                   ·decide +kernel
                   ·exact fun _ _ _ h => h
                   ·(refine Or.inl ⟨by rfl, ?_⟩; intro w_ hSw_; (try dsimp only at hSw_); go_simp; (try with_reducible rfl))
                   ·assumption
                   (try simp only [Act.put, Lp0, Lp1, Lp2])
                   refine' Ords.takeK (i := 2) ?_ ?_ ?_ ?_ ?_ ?_
                   rotate_left 2
                   ·(simp only [List.getElem?_toArray, List.getElem?_cons_succ, List.getElem?_cons_zero]; rfl)
                   ·decide +kernel
                   ·exact fun _ _ _ h => h
                   ·(refine Or.inl ⟨by rfl, ?_⟩; intro w_ hSw_; (try dsimp only at hSw_); go_simp; (try with_reducible rfl))
                   ·assumption
                   (try simp only [Act.put, Lp0, Lp1, Lp2])
                   refine' Ords.takeK (i := 3) ?_ ?_ ?_ ?_ ?_ ?_
                   rotate_left 2
                   ·(simp only [List.getElem?_toArray, List.getElem?_cons_succ, List.getElem?_cons_zero]; rfl)
                   ·decide +kernel
                   ·exact fun _ _ _ h => h
                   ·(refine Or.inl ⟨by rfl, ?_⟩; intro w_ hSw_; (try dsimp only at hSw_); go_simp; (try with_reducible rfl))
                   ·assumption
                   (try simp only [Act.put, Lp0, Lp1, Lp2])
                   refine' Ords.takeK (i := 4) ?_ ?_ ?_ ?_ ?_ ?_
                   rotate_left 2
                   ·(simp only [List.getElem?_toArray, List.getElem?_cons_succ, List.getElem?_cons_zero]; rfl)
                   ·decide +kernel
                   ·exact fun _ _ _ h => h
                   ·(refine Or.inl ⟨by rfl, ?_⟩; intro w_ hSw_; (try dsimp only at hSw_); go_simp; (try with_reducible rfl))
                   ·assumption
                   (try simp only [Act.put, Lp0, Lp1, Lp2])
                   refine' Ords.takeK (i := 5) ?_ ?_ ?_ ?_ ?_ ?_
                   rotate_left 2
                   ·(simp only [List.getElem?_toArray, List.getElem?_cons_succ, List.getElem?_cons_zero]; rfl)
                   ·decide +kernel
                   ·exact fun _ _ _ h => h
                   ·(refine Or.inl ⟨by rfl, ?_⟩; intro w_ hSw_; (try dsimp only at hSw_); go_simp; (try with_reducible rfl))
                   ·assumption
                   (try simp only [Act.put, Lp0, Lp1, Lp2])
                   refine' Ords.takeK (i := 6) ?_ ?_ ?_ ?_ ?_ ?_
                   rotate_left 2
                   ·(simp only [List.getElem?_toArray, List.getElem?_cons_succ, List.getElem?_cons_zero]; rfl)
                   ·decide +kernel
                   ·exact fun _ _ _ h => h
                   ·(refine Or.inl ⟨by rfl, ?_⟩; intro w_ hSw_; (try dsimp only at hSw_); go_simp; (try with_reducible rfl))
                   ·assumption
                   (try simp only [Act.put, Lp0, Lp1, Lp2])
                   refine' Ords.takeK (i := 7) ?_ ?_ ?_ ?_ ?_ ?_
                   rotate_left 2
                   ·(simp only [List.getElem?_toArray, List.getElem?_cons_succ, List.getElem?_cons_zero]; rfl)
                   ·decide +kernel
                   ·exact fun _ _ _ h => h
                   ·(refine Or.inl ⟨by rfl, ?_⟩; intro w_ hSw_; (try dsimp only at hSw_); go_simp; (try with_reducible rfl))
                   ·assumption
                   (try simp only [Act.put, Lp0, Lp1, Lp2])
                   refine' Ords.takeK (i := 8) ?_ ?_ ?_ ?_ ?_ ?_
                   rotate_left 2
                   ·(simp only [List.getElem?_toArray, List.getElem?_cons_succ, List.getElem?_cons_zero]; rfl)
                   ·decide +kernel
                   ·exact fun _ _ _ h => h
                   ·(refine Or.inl ⟨by rfl, ?_⟩; intro w_ hSw_; (try dsimp only at hSw_); go_simp; (try with_reducible rfl))
                   ·assumption
                   (try simp only [Act.put, Lp0, Lp1, Lp2])
                   refine' Ords.takeK (i := 9) ?_ ?_ ?_ ?_ ?_ ?_
                   rotate_left 2
                   ·(simp only [List.getElem?_toArray, List.getElem?_cons_succ, List.getElem?_cons_zero]; rfl)
                   ·decide +kernel
                   ·exact fun _ _ _ h => h
                   ·(refine Or.inl ⟨by rfl, ?_⟩; intro w_ hSw_; (try dsimp only at hSw_); go_simp; (try with_reducible rfl))
                   ·assumption
                   (try simp only [Act.put, Lp0, Lp1, Lp2])
                   refine' Ords.takeK (i := 10) ?_ ?_ ?_ ?_ ?_ ?_
                   rotate_left 2
                   ·(simp only [List.getElem?_toArray, List.getElem?_cons_succ, List.getElem?_cons_zero]; rfl)
                   ·decide +kernel
                   ·exact fun _ _ _ h => h
                   ·(refine Or.inl ⟨by rfl, ?_⟩; intro w_ hSw_; (try dsimp only at hSw_); go_simp; (try with_reducible rfl))
                   ·assumption
                   (try simp only [Act.put, Lp0, Lp1, Lp2])
                   refine' Ords.takeK (i := 11) ?_ ?_ ?_ ?_ ?_ ?_
                   rotate_left 2
                   ·(simp only [List.getElem?_toArray, List.getElem?_cons_succ, List.getElem?_cons_zero]; rfl)
                   ·decide +kernel
                   ·exact fun _ _ _ h => h
                   ·(refine Or.inl ⟨by rfl, ?_⟩; intro w_ hSw_; (try dsimp only at hSw_); go_simp; (try with_reducible rfl))
                   ·assumption
                   (try simp only [Act.put, Lp0, Lp1, Lp2])
                   refine' Ords.takeK (i := 12) ?_ ?_ ?_ ?_ ?_ ?_
                   rotate_left 2
                   ·(simp only [List.getElem?_toArray, List.getElem?_cons_succ, List.getElem?_cons_zero]; rfl)
                   ·decide +kernel
                   ·exact fun _ _ _ h => h
                   ·(refine Or.inl ⟨by rfl, ?_⟩; intro w_ hSw_; (try dsimp only at hSw_); go_simp; (try with_reducible rfl))
                   ·assumption
                   (try simp only [Act.put, Lp0, Lp1, Lp2])
                   refine' Ords.takeK (i := 13) ?_ ?_ ?_ ?_ ?_ ?_
                   rotate_left 2
                   ·(simp only [List.getElem?_toArray, List.getElem?_cons_succ, List.getElem?_cons_zero]; rfl)
                   ·decide +kernel
                   ·exact fun _ _ _ h => h
                   ·(refine Or.inl ⟨by rfl, ?_⟩; intro w_ hSw_; (try dsimp only at hSw_); go_simp; (try with_reducible rfl))
                   ·assumption
                   (try simp only [Act.put, Lp0, Lp1, Lp2])
                   refine' Ords.takeK (i := 14) ?_ ?_ ?_ ?_ ?_ ?_
                   rotate_left 2
                   ·(simp only [List.getElem?_toArray, List.getElem?_cons_succ, List.getElem?_cons_zero]; rfl)
                   ·decide +kernel
                   ·exact fun _ _ _ h => h
                   ·(refine Or.inl ⟨by rfl, ?_⟩; intro w_ hSw_; (try dsimp only at hSw_); go_simp; (try with_reducible rfl))
                   ·assumption
                   (try simp only [Act.put, Lp0, Lp1, Lp2])
                   refine' Ords.takeK (i := 15) ?_ ?_ ?_ ?_ ?_ ?_
                   rotate_left 2
                   ·(simp only [List.getElem?_toArray, List.getElem?_cons_succ, List.getElem?_cons_zero]; rfl)
                   ·decide +kernel
                   ·exact fun _ _ _ h => h
                   ·(refine Or.inl ⟨by rfl, ?_⟩; intro w_ hSw_; (try dsimp only at hSw_); go_simp; (try with_reducible rfl))
                   ·assumption
                   (try simp only [Act.put, Lp0, Lp1, Lp2])
                   refine' Ords.takeK (i := 16) ?_ ?_ ?_ ?_ ?_ ?_
                   rotate_left 2
                   ·(simp only [List.getElem?_toArray, List.getElem?_cons_succ, List.getElem?_cons_zero]; rfl)
                   ·decide +kernel
                   ·exact fun _ _ _ h => h
                   ·(refine Or.inl ⟨by rfl, ?_⟩; intro w_ hSw_; (try dsimp only at hSw_); go_simp; (try with_reducible rfl))
                   ·assumption
                   (try simp only [Act.put, Lp0, Lp1, Lp2])
                   refine' Ords.takeK (i := 17) ?_ ?_ ?_ ?_ ?_ ?_
                   rotate_left 2
                   ·(simp only [List.getElem?_toArray, List.getElem?_cons_succ, List.getElem?_cons_zero]; rfl)
                   ·decide +kernel
                   ·exact fun _ _ _ h => h
                   ·(refine Or.inl ⟨by rfl, ?_⟩; intro w_ hSw_; (try dsimp only at hSw_); go_simp; (try with_reducible rfl))
                   ·assumption
                   (try simp only [Act.put, Lp0, Lp1, Lp2])
                   refine' Ords.takeK (i := 18) ?_ ?_ ?_ ?_ ?_ ?_
                   rotate_left 2
                   ·(simp only [List.getElem?_toArray, List.getElem?_cons_succ, List.getElem?_cons_zero]; rfl)
                   ·decide +kernel
                   ·exact fun _ _ _ h => h
                   ·(refine Or.inl ⟨by rfl, ?_⟩; intro w_ hSw_; (try dsimp only at hSw_); go_simp; (try with_reducible rfl))
                   ·assumption
                   (try simp only [Act.put, Lp0, Lp1, Lp2])
                   refine' Ords.takeK (i := 19) ?_ ?_ ?_ ?_ ?_ ?_
                   rotate_left 2
                   ·(simp only [List.getElem?_toArray, List.getElem?_cons_succ, List.getElem?_cons_zero]; rfl)
                   ·decide +kernel
                   ·exact fun _ _ _ h => h
                   ·(refine Or.inl ⟨by rfl, ?_⟩; intro w_ hSw_; (try dsimp only at hSw_); go_simp; (try with_reducible rfl))
                   ·assumption
                   (try simp only [Act.put, Lp0, Lp1, Lp2])
                   refine' Ords.takeK (i := 20) ?_ ?_ ?_ ?_ ?_ ?_
                   rotate_left 2
                   ·(simp only [List.getElem?_toArray, List.getElem?_cons_succ, List.getElem?_cons_zero]; rfl)
                   ·decide +kernel
                   ·exact fun _ _ _ h => h
                   ·(refine Or.inl ⟨by rfl, ?_⟩; intro w_ hSw_; (try dsimp only at hSw_); go_simp; (try with_reducible rfl))
                   ·assumption
                   (try simp only [Act.put, Lp0, Lp1, Lp2])
                   refine' Ords.takeK (i := 21) ?_ ?_ ?_ ?_ ?_ ?_
                   rotate_left 2
                   ·(simp only [List.getElem?_toArray, List.getElem?_cons_succ, List.getElem?_cons_zero]; rfl)
                   ·decide +kernel
                   ·exact fun _ _ _ h => h
                   ·(refine Or.inl ⟨by rfl, ?_⟩; intro w_ hSw_; (try dsimp only at hSw_); go_simp; (try with_reducible rfl))
                   ·assumption
                   (try simp only [Act.put, Lp0, Lp1, Lp2])
                   refine' Ords.last (by decide +kernel) (by simp only [List.getElem?_toArray, List.getElem?_cons_succ, List.getElem?_cons_zero]; rfl) (by decide +kernel) (fun K hK => ?_)
                   go_simp
                   (try go_wp2_with fail)
                   refine hK.out _ _ ?_
                   clear hK K
                   (try simp only [Act.put, Lp0, Lp1, Lp2])
                   clear hHeld
                   go_wp2
                   go_roundw
                   case rel => exact ⟨i + 1, by go_num, by omega, hR4.out⟩
                   case measure => simp [intOf]; omega
                  ·obtain rfl : i = xe := by omega
                   have hii : ¬ (i : Int) < (i : Int) := by omega
                   have hR2 := hid (hR.cast (by rw [hUx.out, hQr.out yy x1 (Nat.le_refl _), show yy + 1 = Y + (j + 1) by have := hyy.out; omega]))
                   clear hR
                   go_wp2
                   go_roundw
                   case rel => exact ⟨j + 1, by go_num, by omega, hR2.out⟩
                   case measure => simp [intOf]; omega
                ·obtain rfl : j = ye := by omega
                 have hji : ¬ (j : Int) < (j : Int) := by omega
                 go_upto_region 22 with fail
                 go_quiet (fail)
                 have hb1 : Below wr.heap.size wr (wr.drewN nq) := below_drewN (Below.refl _ _) _
                 replace hR := hR.goes hb1
                 generalize wr.drewN nq = wa at hR hb1 ⊢
                 replace hR := hid (show PxR w9 g E wa from hR.cast (by rw [hVy.out]; exact hQe.out y1 (Nat.le_refl _)))
                 clear hb1 c1 c0
                 go_wp2_with fail
                 go_meet
                 exact hR.out
            case rest =>
             have hbq := hC.out wc _ hcut
             have hpx := hcut.a
             obtain ⟨wq, hwq⟩ : ∃ z, z = wc := ⟨_, rfl⟩
             rw [← hwq] at hbq hpx ⊢
             clear hcut hwq wc hC hR0
             have lX := cell_lt (hXC.out wq hbq 0 (by omega))
             have lY := cell_lt (hYC.out wq hbq 0 (by omega))
             have lM := cell_lt (hb0k.out wq hbq).1
             have lg := hpx.z.lt
             have lw := (bel_step HB hbq).size
             obtain ⟨F, hF⟩ : ∃ F, kelF xs ys T sp i0 i1 j0 j1 = F := ⟨_, rfl⟩
             have hF1 := hid fun (r c : Nat) (h : ¬ InS sp i0 i1 j0 j1 r c) => (show F r c = [kelN xs ys T r c 1 1] from by rw [← hF]; unfold kelF; rw [if_neg h])
             have hF2 := hid fun (r c : Nat) (h : InS sp i0 i1 j0 j1 r c) (e : r = i0 ∧ c = j0) => (show F r c = [kelN xs ys T r c (i1 - i0 + 1) (j1 - j0 + 1)] from by rw [← hF]; unfold kelF; rw [if_pos h, if_pos e])
             have hF3 := hid fun (r c : Nat) (h : InS sp i0 i1 j0 j1 r c) (e : ¬ (r = i0 ∧ c = j0)) => (show F r c = [] from by rw [← hF]; unfold kelF; rw [if_pos h, if_neg e])
             have hF0 := hid (wantK_len (F := F) (fun r c => by rw [← hF]; exact kelF_len ..) n)
             have hFs := hid (wantK_s F n)
             have hFr := hid (wantK_r F n)
             have hFz : [] = wantK F n 0 0 := (wantK_0 F n).symm
             rw [hF] at hfin
             clear hF
             generalize wantK F n = WK at *
             go_upto_region 30 with fail
             refine enterR (P := fun u => Code.wp _ _ _ _ u) (c := [.int .i64 (m : Int), .int .i64 (n : Int), .slice none 0 0]) ?_
             intro x3 hb3 rt zt hst
             obtain ⟨gT, hgT⟩ : ∃ x, wq.heap.size = x := ⟨_, rfl⟩
             have hb3q := bel_step hbq hb3
             have hb3w := bel_step HB hb3q
             have hpx3 := hpx.below hb3
             rw [hgT] at rt zt lX lY lM lg lw ⊢
             have lT := zt.lt
             have hKp := hid fun (V : World) (h : But2 x3 V gT gT) => (show (∀ j, j ≤ n → V.cell? ⟨gX, j, none⟩ = some (.int .i64 (xs j : Int))) ∧ (∀ j, j ≤ m → V.cell? ⟨gY, j, none⟩ = some (.int .i64 (ys j : Int))) ∧ (V.cell? ⟨gm, 0, none⟩ = some (.int .i64 (W : Int)) ∧ V.cell? ⟨gm, 1, none⟩ = some (.int .i64 (H : Int))) ∧ PxA V g E ∧ Below w.heap.size w V from by
              have a1 : gX ≠ gT := by omega
              have a2 : gY ≠ gT := by omega
              have a3 : gm ≠ gT := by omega
              have a4 : g ≠ gT := by omega
              obtain ⟨q1, q2⟩ := hb0k.out x3 hb3q
              exact ⟨fun j hj => h.cell a1 a1 (hXC.out x3 hb3q j hj), fun j hj => h.cell a2 a2 (hYC.out x3 hb3q j hj), ⟨h.cell a3 a3 q1, h.cell a3 a3 q2⟩, h.px a4 a4 hpx3, hb3w.trans (h.old lw lw hb3w.size)⟩)
             have hW0 : WaT x3 x3 gT (.int .i64 (m : Int)) (.int .i64 (n : Int)) (.slice none 0 0) [] := ⟨But2.refl _ _ _, rt 0 _ rfl, rt 1 _ rfl, rt 2 _ rfl, zt, Knd.Own.nil _ _⟩
             have hx3s : w.heap.size ≤ x3.heap.size := hb3w.size
             clear rt zt hst hb3 hb3q hb3w hpx3 hpx hbq hXC hYC hb0k lX lY lM lg HB hgT
             replace hFz := hid hFz
             go_wp2_with fail
             go_loopw [255] (fun s255 wr => ∃ (r : Nat) (vC : Value), s255 = .int .i64 (r : Int) ∧ r ≤ m ∧ WaT x3 wr gT (.int .i64 (m : Int)) (.int .i64 (n : Int)) vC (WK r 0)) (fun s255 _ => m - (intOf s255).toNat)
             case atStart => exact ⟨0, _, rfl, by omega, hFz.out ▸ hW0⟩
             case round =>
              clear hW0
              obtain ⟨r, vC, rfl, hr, hW⟩ := hrel
              by_cases hrm : r < m
              ·have hri : (r : Int) < (m : Int) := by omega
               go_wp2_with fail
               obtain ⟨w0, hw0⟩ : ∃ w0, w0 = wr := ⟨_, rfl⟩
               subst hw0
               go_loopw [260] (fun s260 wr => ∃ (c : Nat) (vC : Value), s260 = .int .i64 (c : Int) ∧ c ≤ n ∧ WaT x3 wr gT (.int .i64 (m : Int)) (.int .i64 (n : Int)) vC (WK r c)) (fun s260 _ => n - (intOf s260).toNat)
               case atStart => exact ⟨0, _, rfl, by omega, hW⟩
               case round =>
                clear hW
                obtain ⟨c, vC, rfl, hc, hW⟩ := hrel
                by_cases hcn : c < n
                ·have hci : (c : Int) < (n : Int) := by omega
                 go_upto_region 37 with fail
                 refine enterR (P := fun u => Code.wp _ _ _ _ u) (c := [.int .i64 (r : Int), .int .i64 (c : Int), .int .i64 1, .int .i64 1, .int .i64 0, .int .i64 0, .int .i64 0, .int .i64 0]) ?_
                 intro y1 hby rk zk hsk
                 obtain ⟨gc, hgc⟩ : ∃ x, wr.heap.size = x := ⟨_, rfl⟩
                 rw [hgc] at rk zk ⊢
                 have hgcT : gT < gc := by have := hW.z.lt; omega
                 go_cut [286] from 266 to 286 (fun s286 wx => (∃ B : Bool, s286 = .bool B ∧ (B = true ↔ InS sp i0 i1 j0 j1 r c)) ∧ wx = y1)
                 case first =>
                  as_aux_lemma =>
                   clear hKp hF1 hF2 hF3 hF0 hFs hFr hFz hfin hW hx4 hy4 hxm hym rk zk hby hsk hwn1 hwm1 hsc
                   cases sp
                   ·go_wp2_with fail
                    go_meet
                    exact ⟨⟨false, rfl, ⟨fun h => (by cases h), fun h => (by cases h.1)⟩⟩, rfl⟩
                   ·obtain ⟨⟨rfl, rfl⟩, rfl, rfl⟩ := hso.out (by first | rfl | trivial)
                    clear hso
                    by_cases q0 : i0 ≤ r
                    ·have q0i : (i0 : Int) ≤ (r : Int) := by omega
                     by_cases q1 : r ≤ i1
                     ·have q1i : (r : Int) ≤ (i1 : Int) := by omega
                      by_cases q2 : j0 ≤ c
                      ·have q2i : (j0 : Int) ≤ (c : Int) := by omega
                       by_cases q3 : c ≤ j1
                       ·have q3i : (c : Int) ≤ (j1 : Int) := by omega
                        go_wp2_with fail
                        go_meet
                        exact ⟨⟨true, rfl, ⟨fun _ => ⟨rfl, ⟨q0, q1⟩, q2, q3⟩, fun _ => rfl⟩⟩, rfl⟩
                       ·have q3i : ¬ (c : Int) ≤ (j1 : Int) := by omega
                        go_wp2_with fail
                        go_meet
                        exact ⟨⟨false, rfl, ⟨fun h => (by cases h), fun h => absurd h.2.2.2 q3⟩⟩, rfl⟩
                      ·have q2i : ¬ (j0 : Int) ≤ (c : Int) := by omega
                       go_wp2_with fail
                       go_meet
                       exact ⟨⟨false, rfl, ⟨fun h => (by cases h), fun h => absurd h.2.2.1 q2⟩⟩, rfl⟩
                     ·have q1i : ¬ (r : Int) ≤ (i1 : Int) := by omega
                      go_wp2_with fail
                      go_meet
                      exact ⟨⟨false, rfl, ⟨fun h => (by cases h), fun h => absurd h.2.1.2 q1⟩⟩, rfl⟩
                    ·have q0i : ¬ (i0 : Int) ≤ (r : Int) := by omega
                     go_wp2_with fail
                     go_meet
                     exact ⟨⟨false, rfl, ⟨fun h => (by cases h), fun h => absurd h.2.1.1 q0⟩⟩, rfl⟩
                 case rest =>
                  obtain ⟨⟨B, rfl, hB⟩, hwc⟩ := hcut
                  rw [hwc]
                  clear hwc wc
                  replace hB := hid hB
                  go_upto_if 286 with fail
                  go_cut [] from 287 to 304 (fun wx => (∃ rs cs : Nat, Hid (F r c = [kelN xs ys T r c rs cs] ∧ (r + rs ≤ m ∧ 1 ≤ rs) ∧ c + cs ≤ n ∧ 1 ≤ cs) ∧ wx.rangeAt gc 0 [.int .i64 (r : Int), .int .i64 (c : Int), .int .i64 (rs : Int), .int .i64 (cs : Int), .int .i64 0, .int .i64 0, .int .i64 0, .int .i64 0]) ∧ Zn wx gc ∧ Below wr.heap.size wr wx)
                  case first =>
                   as_aux_lemma =>
                    cases B
                    ·have hFk := hid (hF1.out r c (fun h => by have := hB.out.2 h; cases this))
                     have hres := hid (And.intro rk (And.intro zk hby))
                     clear hKp hF1 hF2 hF3 hF0 hFs hFr hFz hfin hW hx4 hy4 hxm hym hsk hwn1 hwm1 hsc hso hB rk zk hby
                     go_wp2_with fail
                     go_meet
                     exact ⟨⟨1, 1, hid ⟨hFk.out, ⟨by omega, by omega⟩, by omega, by omega⟩, hres.out.1⟩, hres.out.2⟩
                    ·obtain ⟨hsp, ⟨q0, q1⟩, q2, q3⟩ := hB.out.1 (by first | rfl | trivial)
                     subst hsp
                     obtain ⟨⟨rfl, rfl⟩, rfl, rfl⟩ := hso.out (by first | rfl | trivial)
                     by_cases p0 : i0 < r
                     ·have p0i : (i0 : Int) < (r : Int) := by omega
                      have hFk := hF3.out r c (hB.out.1 (by first | rfl | trivial)) (fun h => by omega)
                      have hW2 := hW.below hby
                      have hcat := hFs.out r c
                      rw [hFk, List.append_nil] at hcat
                      rw [← hcat] at hW2
                      replace hW2 := hid hW2
                      clear hKp hF1 hF2 hF3 hF0 hFs hFr hFz hfin hW hx4 hy4 hxm hym hsk hwn1 hwm1 hsc hso hB rk zk hby hcat hFk
                      go_wp2
                      go_roundw
                      case rel => exact ⟨c + 1, _, by go_num, by omega, hW2.out⟩
                      case measure => simp [intOf]; omega
                     ·have p0i : ¬ (i0 : Int) < (r : Int) := by omega
                      by_cases p1 : j0 < c
                      ·have p1i : (j0 : Int) < (c : Int) := by omega
                       have hFk := hF3.out r c (hB.out.1 (by first | rfl | trivial)) (fun h => by omega)
                       have hW2 := hW.below hby
                       have hcat := hFs.out r c
                       rw [hFk, List.append_nil] at hcat
                       rw [← hcat] at hW2
                       replace hW2 := hid hW2
                       clear hKp hF1 hF2 hF3 hF0 hFs hFr hFz hfin hW hx4 hy4 hxm hym hsk hwn1 hwm1 hsc hso hB rk zk hby hcat hFk
                       go_wp2
                       go_roundw
                       case rel => exact ⟨c + 1, _, by go_num, by omega, hW2.out⟩
                       case measure => simp [intOf]; omega
                      ·obtain rfl : r = i0 := by omega
                       obtain rfl : c = j0 := by omega
                       have p1i : ¬ (c : Int) < (c : Int) := by omega
                       obtain ⟨⟨s1, s2⟩, s3, s4⟩ := (hsc.out (by first | rfl | trivial)).1
                       have hFk := hid (hF2.out r c (hB.out.1 (by first | rfl | trivial)) ⟨rfl, rfl⟩)
                       have k2 := rk 2 _ rfl
                       have k3 := rk 3 _ rfl
                       have fk := zk.fr
                       have lk := zk.lt
                       rw [Nat.zero_add] at k2 k3
                       obtain ⟨e1, he1⟩ : ∃ x, i1 - r = x := ⟨_, rfl⟩
                       obtain ⟨e2, he2⟩ : ∃ x, j1 - c = x := ⟨_, rfl⟩
                       rw [he1, he2] at hFk
                       have w1 : IntKind.i64.wrap ((i1 : Int) - (r : Int)) = (e1 : Int) := by rw [IntKind.wrap_i64]; omega
                       have w2 : IntKind.i64.wrap ((j1 : Int) - (c : Int)) = (e2 : Int) := by rw [IntKind.wrap_i64]; omega
                       have w3 : IntKind.i64.wrap ((e1 : Int) + 1) = ((e1 + 1 : Nat) : Int) := by rw [IntKind.wrap_i64]; omega
                       have w4 : IntKind.i64.wrap ((e2 : Int) + 1) = ((e2 + 1 : Nat) : Int) := by rw [IntKind.wrap_i64]; omega
                       have b1 : r + (e1 + 1) ≤ m := by omega
                       have b2 : c + (e2 + 1) ≤ n := by omega
                       have b3 : 1 ≤ e1 + 1 ∧ 1 ≤ e2 + 1 := ⟨by omega, by omega⟩
                       have hrg : ((y1.setCell ⟨gc, 2, none⟩ (.int .i64 ((e1 + 1 : Nat) : Int))).setCell ⟨gc, 3, none⟩ (.int .i64 ((e2 + 1 : Nat) : Int))).rangeAt gc 0 [.int .i64 (r : Int), .int .i64 (c : Int), .int .i64 ((e1 + 1 : Nat) : Int), .int .i64 ((e2 + 1 : Nat) : Int), .int .i64 0, .int .i64 0, .int .i64 0, .int .i64 0] := rng_setI (i := 3) (rng_setI (i := 2) rk (by simp)) (by simp)
                       have hzg := (zk.set_ (k := gc) (i := 2) (v := .int .i64 ((e1 + 1 : Nat) : Int))).set_ (k := gc) (i := 3) (v := .int .i64 ((e2 + 1 : Nat) : Int))
                       have hbg := below_set (below_set hby (show wr.heap.size ≤ gc by omega) 2 (.int .i64 ((e1 + 1 : Nat) : Int))) (show wr.heap.size ≤ gc by omega) 3 (.int .i64 ((e2 + 1 : Nat) : Int))
                       have hres := hid (And.intro hrg (And.intro hzg hbg))
                       generalize e1 + 1 = E1 at *
                       generalize e2 + 1 = E2 at *
                       have hfk := hid (And.intro hFk.out (And.intro (And.intro b1 b2) b3))
                       clear hKp hF1 hF2 hF3 hF0 hFs hFr hFz hfin hW hx4 hy4 hxm hym hsk hwn1 hwm1 hsc hso hB rk zk hby hrg hzg hbg he1 he2 s1 s2 s3 s4 b1 b2 b3 hFk q0 q1 q2 q3 p0 p1
                       go_wp2_with fail
                       go_meet
                       exact ⟨⟨E1, E2, hid ⟨hfk.out.1, ⟨hfk.out.2.1.1, hfk.out.2.2.1⟩, hfk.out.2.1.2, hfk.out.2.2.2⟩, hres.out.1⟩, hres.out.2⟩
                  case rest =>
                   obtain ⟨⟨rs, cs, hk, rk, zk⟩, hby⟩ : (∃ rs cs : Nat, Hid (F r c = [kelN xs ys T r c rs cs] ∧ (r + rs ≤ m ∧ 1 ≤ rs) ∧ c + cs ≤ n ∧ 1 ≤ cs) ∧ wc.rangeAt gc 0 [.int .i64 (r : Int), .int .i64 (c : Int), .int .i64 (rs : Int), .int .i64 (cs : Int), .int .i64 0, .int .i64 0, .int .i64 0, .int .i64 0] ∧ Zn wc gc) ∧ Below wr.heap.size wr wc := by
                    obtain ⟨⟨rs, cs, h1, h2⟩, h3, h4⟩ := hcut
                    exact ⟨⟨rs, cs, h1, h2, h3⟩, h4⟩
                   clear hcut hB hF1 hF2 hF3 hsc hso hsk
                   obtain ⟨y2, hy2⟩ : ∃ z, z = wc := ⟨_, rfl⟩
                   rw [← hy2] at rk zk hby ⊢
                   clear hy2 wc
                   obtain ⟨hFk, ⟨hr1, hr2⟩, hc1, hc2⟩ := hk.out
                   obtain ⟨hXV, hYV, -, -, -⟩ := hKp.out y2 (hW.below hby).bt
                   obtain ⟨C2, hC2⟩ : ∃ x, c + cs = x := ⟨_, rfl⟩
                   obtain ⟨R2, hR2⟩ : ∃ x, r + rs = x := ⟨_, rfl⟩
                   have xa := hXV c (by omega)
                   have xb := hXV C2 (by omega)
                   have ya := hYV r (by omega)
                   have yb := hYV R2 (by omega)
                   have gx := hxm.out c C2 (by omega) (by omega)
                   have gy := hym.out r R2 (by omega) (by omega)
                   have gx4 := hx4.out C2 (by omega)
                   have gy4 := hy4.out R2 (by omega)
                   unfold kelN at hFk
                   rw [hC2, hR2] at hFk
                   clear hXV hYV hk hxm hym hx4 hy4
                   obtain ⟨A6, c6, rfl⟩ := hW.o.form CeKo
                   have hLn := hF0.out r c
                   have hrn : r * n ≤ 6 * 6 := Nat.mul_le_mul (by omega) (by omega)
                   obtain ⟨p0, hp0⟩ : ∃ x, xs c = x := ⟨_, rfl⟩
                   obtain ⟨p1, hp1⟩ : ∃ x, xs C2 = x := ⟨_, rfl⟩
                   obtain ⟨q0, hq0⟩ : ∃ x, ys r = x := ⟨_, rfl⟩
                   obtain ⟨q1, hq1⟩ : ∃ x, ys R2 = x := ⟨_, rfl⟩
                   rw [hp0] at xa gx hFk
                   rw [hp1] at xb gx gx4 hFk
                   rw [hq0] at ya gy hFk
                   rw [hq1] at yb gy gy4 hFk
                   obtain ⟨bx, hbx⟩ : ∃ x, p0 + T = x := ⟨_, rfl⟩
                   obtain ⟨bY, hbY⟩ : ∃ x, q0 + T = x := ⟨_, rfl⟩
                   obtain ⟨dx, hdx⟩ : ∃ x : Int, (p1 : Int) - (p0 : Int) = x := ⟨_, rfl⟩
                   obtain ⟨dy, hdy⟩ : ∃ x : Int, (q1 : Int) - (q0 : Int) = x := ⟨_, rfl⟩
                   obtain ⟨bw, hbw⟩ : ∃ x : Int, dx - (T : Int) = x := ⟨_, rfl⟩
                   obtain ⟨bh, hbh⟩ : ∃ x : Int, dy - (T : Int) = x := ⟨_, rfl⟩
                   rw [hbx, hbY, hdx, hdy, hbw, hbh] at hFk
                   have w1 : IntKind.i64.wrap ((p0 : Int) + (T : Int)) = (bx : Int) := by rw [IntKind.wrap_i64]; omega
                   have w2 : IntKind.i64.wrap ((q0 : Int) + (T : Int)) = (bY : Int) := by rw [IntKind.wrap_i64]; omega
                   have w3 : IntKind.i64.wrap ((c : Int) + (cs : Int)) = (C2 : Int) := by rw [IntKind.wrap_i64]; omega
                   have w4 : IntKind.i64.wrap ((r : Int) + (rs : Int)) = (R2 : Int) := by rw [IntKind.wrap_i64]; omega
                   have w5 : IntKind.i64.wrap ((p1 : Int) - (p0 : Int)) = dx := by rw [IntKind.wrap_i64]; omega
                   have w6 : IntKind.i64.wrap ((q1 : Int) - (q0 : Int)) = dy := by rw [IntKind.wrap_i64]; omega
                   have w7 : IntKind.i64.wrap (dx - (T : Int)) = bw := by rw [IntKind.wrap_i64]; omega
                   have w8 : IntKind.i64.wrap (dy - (T : Int)) = bh := by rw [IntKind.wrap_i64]; omega
                   have l1 : c < n + 1 := by omega
                   have l2 : C2 < n + 1 := by omega
                   have l3 : r < m + 1 := by omega
                   have l4 : R2 < m + 1 := by omega
                   have l1i : (c : Int) < (n : Int) + 1 := by omega
                   have l2i : (C2 : Int) < (n : Int) + 1 := by omega
                   have l3i : (r : Int) < (m : Int) + 1 := by omega
                   have l4i : (R2 : Int) < (m : Int) + 1 := by omega
                   have hcat := hFs.out r c
                   rw [hFk] at hcat
                   obtain ⟨Ln, hLn2⟩ : ∃ x, (WK r c).length = x := ⟨_, rfl⟩
                   have hLn3 : Ln ≤ 42 := by omega
                   replace hcat := hid hcat
                   clear hFk hp0 hp1 hq0 hq1 hbx hbY hdx hdy hbw hbh gx gy gx4 gy4 hC2 hR2 hr1 hc1 hr2 hc2 hLn hrn
                   have m2 : y2.cell? ⟨gc, 2, none⟩ = some (.int .i64 (rs : Int)) := rk 2 _ rfl
                   have m3 : y2.cell? ⟨gc, 3, none⟩ = some (.int .i64 (cs : Int)) := rk 3 _ rfl
                   have hvd : Below wr.heap.size wr y2.drew := hby.drew
                   have rkd : y2.drew.rangeAt gc 0 [.int .i64 (r : Int), .int .i64 (c : Int), .int .i64 (rs : Int), .int .i64 (cs : Int), .int .i64 0, .int .i64 0, .int .i64 0, .int .i64 0] := fun j v hv => keep_drew (rk j v hv)
                   have mfd := (zk.below ((Below.refl y2.heap.size y2).drew)).fr
                   have mld := (zk.below ((Below.refl y2.heap.size y2).drew)).lt
                   clear rk zk
                   rw [hLn2] at hW
                   go_upto_region 41 with fail
                   refine Ords.start (x := 42) (S := fun w' => ((w'.cell? ⟨gX, c, none⟩ = some (.int .i64 (p0 : Int)) ∧ w'.cell? ⟨gX, C2, none⟩ = some (.int .i64 (p1 : Int))) ∧ w'.cell? ⟨gY, r, none⟩ = some (.int .i64 (q0 : Int)) ∧ w'.cell? ⟨gY, R2, none⟩ = some (.int .i64 (q1 : Int))) ∧ w'.cell? ⟨gc, 2, none⟩ = some (.int .i64 (rs : Int)) ∧ w'.cell? ⟨gc, 3, none⟩ = some (.int .i64 (cs : Int))) (by decide +kernel) ⟨⟨⟨xa, xb⟩, ya, yb⟩, m2, m3⟩ (fun hHeld => ?_)
                   clear xa xb ya yb m2 m3 hby
                   generalize y2.drew = y3 at hHeld rkd hvd mfd mld ⊢
                   have m4 : y3.cell? ⟨gc, 4, none⟩ = some (.int .i64 0) := rkd 4 _ rfl
                   have m5 : y3.cell? ⟨gc, 5, none⟩ = some (.int .i64 0) := rkd 5 _ rfl
                   have m6 : y3.cell? ⟨gc, 6, none⟩ = some (.int .i64 0) := rkd 6 _ rfl
                   have m7 : y3.cell? ⟨gc, 7, none⟩ = some (.int .i64 0) := rkd 7 _ rfl
                   refine' Ords.takeK (i := 0) ?_ ?_ ?_ ?_ ?_ ?_
                   rotate_left 2
                   ·(simp only [List.getElem?_toArray, List.getElem?_cons_succ, List.getElem?_cons_zero]; rfl)
                   ·decide +kernel
                   ·exact fun _ _ _ h => h
                   ·(refine Or.inl ⟨by rfl, ?_⟩; intro w_ hSw_; (try dsimp only at hSw_); go_simp; (try with_reducible rfl))
                   ·assumption
                   (try simp only [Act.put, Lp0, Lp1, Lp2])
                   refine' Ords.takeK (i := 1) ?_ ?_ ?_ ?_ ?_ ?_
                   rotate_left 2
                   ·(simp only [List.getElem?_toArray, List.getElem?_cons_succ, List.getElem?_cons_zero]; rfl)
                   ·decide +kernel
                   ·exact fun _ _ _ h => h
                   ·(refine Or.inl ⟨by rfl, ?_⟩; intro w_ hSw_; (try dsimp only at hSw_); go_simp; (try with_reducible rfl))
                   ·assumption
                   (try simp only [Act.put, Lp0, Lp1, Lp2])
                   refine' Ords.takeK (i := 2) ?_ ?_ ?_ ?_ ?_ ?_
                   rotate_left 2
                   ·(simp only [List.getElem?_toArray, List.getElem?_cons_succ, List.getElem?_cons_zero]; rfl)
                   ·decide +kernel
                   ·exact fun _ _ _ h => h
                   ·(refine Or.inl ⟨by rfl, ?_⟩; intro w_ hSw_; (try dsimp only at hSw_); go_simp; (try with_reducible rfl))
                   ·assumption
                   (try simp only [Act.put, Lp0, Lp1, Lp2])
                   refine' Ords.takeK (i := 3) ?_ ?_ ?_ ?_ ?_ ?_
                   rotate_left 2
                   ·(simp only [List.getElem?_toArray, List.getElem?_cons_succ, List.getElem?_cons_zero]; rfl)
                   ·decide +kernel
                   ·exact fun _ _ _ h => h
                   ·(refine Or.inl ⟨by rfl, ?_⟩; intro w_ hSw_; (try dsimp only at hSw_); go_simp; (try with_reducible rfl))
                   ·assumption
                   (try simp only [Act.put, Lp0, Lp1, Lp2])
                   refine' Ords.takeK (i := 4) ?_ ?_ ?_ ?_ ?_ ?_
                   rotate_left 2
                   ·(simp only [List.getElem?_toArray, List.getElem?_cons_succ, List.getElem?_cons_zero]; rfl)
                   ·decide +kernel
                   ·exact fun _ _ _ h => h
                   ·(refine Or.inl ⟨by rfl, ?_⟩; intro w_ hSw_; (try dsimp only at hSw_); go_simp; (try with_reducible rfl))
                   ·assumption
                   (try simp only [Act.put, Lp0, Lp1, Lp2])
                   refine' Ords.takeK (i := 5) ?_ ?_ ?_ ?_ ?_ ?_
                   rotate_left 2
                   ·(simp only [List.getElem?_toArray, List.getElem?_cons_succ, List.getElem?_cons_zero]; rfl)
                   ·decide +kernel
                   ·exact fun _ _ _ h => h
                   ·(refine Or.inl ⟨by rfl, ?_⟩; intro w_ hSw_; (try dsimp only at hSw_); go_simp; (try with_reducible rfl))
                   ·assumption
                   (try simp only [Act.put, Lp0, Lp1, Lp2])
                   refine' Ords.takeK (i := 6) ?_ ?_ ?_ ?_ ?_ ?_
                   rotate_left 2
                   ·(simp only [List.getElem?_toArray, List.getElem?_cons_succ, List.getElem?_cons_zero]; rfl)
                   ·decide +kernel
                   ·exact fun _ _ _ h => h
                   ·(refine Or.inl ⟨by rfl, ?_⟩; intro w_ hSw_; (try dsimp only at hSw_); go_simp; (try with_reducible rfl))
                   ·assumption
                   (try simp only [Act.put, Lp0, Lp1, Lp2])
                   refine' Ords.takeK (i := 7) ?_ ?_ ?_ ?_ ?_ ?_
                   rotate_left 2
                   ·(simp only [List.getElem?_toArray, List.getElem?_cons_succ, List.getElem?_cons_zero]; rfl)
                   ·decide +kernel
                   ·exact fun _ _ _ h => h
                   ·(refine Or.inl ⟨by rfl, ?_⟩; intro w_ hSw_; (try dsimp only at hSw_); go_simp; (try with_reducible rfl))
                   ·assumption
                   (try simp only [Act.put, Lp0, Lp1, Lp2])
                   refine' Ords.takeK (i := 8) ?_ ?_ ?_ ?_ ?_ ?_
                   rotate_left 2
                   ·(simp only [List.getElem?_toArray, List.getElem?_cons_succ, List.getElem?_cons_zero]; rfl)
                   ·decide +kernel
                   ·exact fun _ _ _ h => h
                   ·(refine Or.inl ⟨by rfl, ?_⟩; intro w_ hSw_; (try dsimp only at hSw_); go_simp; (try with_reducible rfl))
                   ·assumption
                   (try simp only [Act.put, Lp0, Lp1, Lp2])
                   refine' Ords.takeK (i := 9) ?_ ?_ ?_ ?_ ?_ ?_
                   rotate_left 2
                   ·(simp only [List.getElem?_toArray, List.getElem?_cons_succ, List.getElem?_cons_zero]; rfl)
                   ·decide +kernel
                   ·exact fun _ _ _ h => h
                   ·(refine Or.inl ⟨by rfl, ?_⟩; intro w_ hSw_; (try dsimp only at hSw_); go_simp; (try with_reducible rfl))
                   ·assumption
                   (try simp only [Act.put, Lp0, Lp1, Lp2])
                   refine' Ords.takeK (i := 10) ?_ ?_ ?_ ?_ ?_ ?_
                   rotate_left 2
                   ·(simp only [List.getElem?_toArray, List.getElem?_cons_succ, List.getElem?_cons_zero]; rfl)
                   ·decide +kernel
                   ·exact fun _ _ _ h => h
                   ·(refine Or.inl ⟨by rfl, ?_⟩; intro w_ hSw_; (try dsimp only at hSw_); go_simp; (try with_reducible rfl))
                   ·assumption
                   (try simp only [Act.put, Lp0, Lp1, Lp2])
                   refine' Ords.takeK (i := 11) ?_ ?_ ?_ ?_ ?_ ?_
                   rotate_left 2
                   ·(simp only [List.getElem?_toArray, List.getElem?_cons_succ, List.getElem?_cons_zero]; rfl)
                   ·decide +kernel
                   ·exact fun _ _ _ h => h
                   ·(refine Or.inl ⟨by rfl, ?_⟩; intro w_ hSw_; (try dsimp only at hSw_); go_simp; (try with_reducible rfl))
                   ·assumption
                   (try simp only [Act.put, Lp0, Lp1, Lp2])
                   refine' Ords.takeK (i := 12) ?_ ?_ ?_ ?_ ?_ ?_
                   rotate_left 2
                   ·(simp only [List.getElem?_toArray, List.getElem?_cons_succ, List.getElem?_cons_zero]; rfl)
                   ·decide +kernel
                   ·exact fun _ _ _ h => h
                   ·(refine Or.inl ⟨by rfl, ?_⟩; intro w_ hSw_; (try dsimp only at hSw_); go_simp; (try with_reducible rfl))
                   ·assumption
                   (try simp only [Act.put, Lp0, Lp1, Lp2])
                   refine' Ords.takeK (i := 13) ?_ ?_ ?_ ?_ ?_ ?_
                   rotate_left 2
                   ·(simp only [List.getElem?_toArray, List.getElem?_cons_succ, List.getElem?_cons_zero]; rfl)
                   ·decide +kernel
                   ·exact fun _ _ _ h => h
                   ·(refine Or.inl ⟨by rfl, ?_⟩; intro w_ hSw_; (try dsimp only at hSw_); go_simp; (try with_reducible rfl))
                   ·assumption
                   (try simp only [Act.put, Lp0, Lp1, Lp2])
                   refine' Ords.takeK (i := 14) ?_ ?_ ?_ ?_ ?_ ?_
                   rotate_left 2
                   ·(simp only [List.getElem?_toArray, List.getElem?_cons_succ, List.getElem?_cons_zero]; rfl)
                   ·decide +kernel
                   ·exact fun _ _ _ h => h
                   ·(refine Or.inl ⟨by rfl, ?_⟩; intro w_ hSw_; (try dsimp only at hSw_); go_simp; (try with_reducible rfl))
                   ·assumption
                   (try simp only [Act.put, Lp0, Lp1, Lp2])
                   refine' Ords.takeK (i := 15) ?_ ?_ ?_ ?_ ?_ ?_
                   rotate_left 2
                   ·(simp only [List.getElem?_toArray, List.getElem?_cons_succ, List.getElem?_cons_zero]; rfl)
                   ·decide +kernel
                   ·exact fun _ _ _ h => h
                   ·(refine Or.inl ⟨by rfl, ?_⟩; intro w_ hSw_; (try dsimp only at hSw_); go_simp; (try with_reducible rfl))
                   ·assumption
                   (try simp only [Act.put, Lp0, Lp1, Lp2])
                   refine' Ords.takeK (i := 16) ?_ ?_ ?_ ?_ ?_ ?_
                   rotate_left 2
                   ·(simp only [List.getElem?_toArray, List.getElem?_cons_succ, List.getElem?_cons_zero]; rfl)
                   ·decide +kernel
                   ·exact fun _ _ _ h => h
                   ·(refine Or.inl ⟨by rfl, ?_⟩; intro w_ hSw_; (try dsimp only at hSw_); go_simp; (try with_reducible rfl))
                   ·assumption
                   (try simp only [Act.put, Lp0, Lp1, Lp2])
                   refine' Ords.takeK (i := 17) ?_ ?_ ?_ ?_ ?_ ?_
                   rotate_left 2
                   ·(simp only [List.getElem?_toArray, List.getElem?_cons_succ, List.getElem?_cons_zero]; rfl)
                   ·decide +kernel
                   ·exact fun _ _ _ h => h
                   ·(refine Or.inl ⟨by rfl, ?_⟩; intro w_ hSw_; (try dsimp only at hSw_); go_simp; (try with_reducible rfl))
                   ·assumption
                   (try simp only [Act.put, Lp0, Lp1, Lp2])
                   refine' Ords.takeK (i := 18) ?_ ?_ ?_ ?_ ?_ ?_
                   rotate_left 2
                   ·(simp only [List.getElem?_toArray, List.getElem?_cons_succ, List.getElem?_cons_zero]; rfl)
                   ·decide +kernel
                   ·exact fun _ _ _ h => h
                   ·(refine Or.inl ⟨by rfl, ?_⟩; intro w_ hSw_; (try dsimp only at hSw_); go_simp; (try with_reducible rfl))
                   ·assumption
                   (try simp only [Act.put, Lp0, Lp1, Lp2])
                   refine' Ords.takeK (i := 19) ?_ ?_ ?_ ?_ ?_ ?_
                   rotate_left 2
                   ·(simp only [List.getElem?_toArray, List.getElem?_cons_succ, List.getElem?_cons_zero]; rfl)
                   ·decide +kernel
                   ·exact fun _ _ _ h => h
                   ·(refine Or.inl ⟨by rfl, ?_⟩; intro w_ hSw_; (try dsimp only at hSw_); go_simp; (try with_reducible rfl))
                   ·assumption
                   (try simp only [Act.put, Lp0, Lp1, Lp2])
                   refine' Ords.takeK (i := 20) ?_ ?_ ?_ ?_ ?_ ?_
                   rotate_left 2
                   ·(simp only [List.getElem?_toArray, List.getElem?_cons_succ, List.getElem?_cons_zero]; rfl)
                   ·decide +kernel
                   ·exact fun _ _ _ h => h
                   ·(refine Or.inl ⟨by rfl, ?_⟩; intro w_ hSw_; (try dsimp only at hSw_); go_simp; (try with_reducible rfl))
                   ·assumption
                   (try simp only [Act.put, Lp0, Lp1, Lp2])
                   refine' Ords.takeK (i := 21) ?_ ?_ ?_ ?_ ?_ ?_
                   rotate_left 2
                   ·(simp only [List.getElem?_toArray, List.getElem?_cons_succ, List.getElem?_cons_zero]; rfl)
                   ·decide +kernel
                   ·exact fun _ _ _ h => h
                   ·(refine Or.inl ⟨by rfl, ?_⟩; intro w_ hSw_; (try dsimp only at hSw_); go_simp; (try with_reducible rfl))
                   ·assumption
                   (try simp only [Act.put, Lp0, Lp1, Lp2])
                   refine' Ords.takeK (i := 22) ?_ ?_ ?_ ?_ ?_ ?_
                   rotate_left 2
                   ·(simp only [List.getElem?_toArray, List.getElem?_cons_succ, List.getElem?_cons_zero]; rfl)
                   ·decide +kernel
                   ·exact fun _ _ _ h => h
                   ·(refine Or.inl ⟨by rfl, ?_⟩; intro w_ hSw_; (try dsimp only at hSw_); go_simp; (try with_reducible rfl))
                   ·assumption
                   (try simp only [Act.put, Lp0, Lp1, Lp2])
                   refine' Ords.takeK (i := 23) ?_ ?_ ?_ ?_ ?_ ?_
                   rotate_left 2
                   ·(simp only [List.getElem?_toArray, List.getElem?_cons_succ, List.getElem?_cons_zero]; rfl)
                   ·decide +kernel
                   ·exact fun _ _ _ h => h
                   ·(refine Or.inl ⟨by rfl, ?_⟩; intro w_ hSw_; (try dsimp only at hSw_); go_simp; (try with_reducible rfl))
                   ·assumption
                   (try simp only [Act.put, Lp0, Lp1, Lp2])
                   refine' Ords.takeK (i := 24) ?_ ?_ ?_ ?_ ?_ ?_
                   rotate_left 2
                   ·(simp only [List.getElem?_toArray, List.getElem?_cons_succ, List.getElem?_cons_zero]; rfl)
                   ·decide +kernel
                   ·exact fun _ _ _ h => h
                   ·(refine Or.inl ⟨by rfl, ?_⟩; intro w_ hSw_; (try dsimp only at hSw_); go_simp; (try with_reducible rfl))
                   ·assumption
                   (try simp only [Act.put, Lp0, Lp1, Lp2])
                   refine' Ords.takeK (i := 25) ?_ ?_ ?_ ?_ ?_ ?_
                   rotate_left 2
                   ·(simp only [List.getElem?_toArray, List.getElem?_cons_succ, List.getElem?_cons_zero]; rfl)
                   ·decide +kernel
                   ·exact fun _ _ _ h => h
                   ·(refine Or.inl ⟨by rfl, ?_⟩; intro w_ hSw_; (try dsimp only at hSw_); go_simp; (try with_reducible rfl))
                   ·assumption
                   (try simp only [Act.put, Lp0, Lp1, Lp2])
                   refine' Ords.takeK (i := 26) ?_ ?_ ?_ ?_ ?_ ?_
                   rotate_left 2
                   ·(simp only [List.getElem?_toArray, List.getElem?_cons_succ, List.getElem?_cons_zero]; rfl)
                   ·decide +kernel
                   ·exact fun _ _ _ h => h
                   ·(refine Or.inl ⟨by rfl, ?_⟩; intro w_ hSw_; (try dsimp only at hSw_); go_simp; (try with_reducible rfl))
                   ·assumption
                   (try simp only [Act.put, Lp0, Lp1, Lp2])
                   refine' Ords.takeK (i := 27) ?_ ?_ ?_ ?_ ?_ ?_
                   rotate_left 2
                   ·(simp only [List.getElem?_toArray, List.getElem?_cons_succ, List.getElem?_cons_zero]; rfl)
                   ·decide +kernel
                   ·exact fun _ _ _ h => h
                   ·(refine Or.inl ⟨by rfl, ?_⟩; intro w_ hSw_; (try dsimp only at hSw_); go_simp; (try with_reducible rfl))
                   ·assumption
                   (try simp only [Act.put, Lp0, Lp1, Lp2])
                   refine' Ords.takeK (i := 28) ?_ ?_ ?_ ?_ ?_ ?_
                   rotate_left 2
                   ·(simp only [List.getElem?_toArray, List.getElem?_cons_succ, List.getElem?_cons_zero]; rfl)
                   ·decide +kernel
                   ·exact fun _ _ _ h => h
                   ·(refine Or.inl ⟨by rfl, ?_⟩; intro w_ hSw_; (try dsimp only at hSw_); go_simp; (try with_reducible rfl))
                   ·assumption
                   (try simp only [Act.put, Lp0, Lp1, Lp2])
                   refine' Ords.takeK (i := 29) ?_ ?_ ?_ ?_ ?_ ?_
                   rotate_left 2
                   ·(simp only [List.getElem?_toArray, List.getElem?_cons_succ, List.getElem?_cons_zero]; rfl)
                   ·decide +kernel
                   ·exact fun _ _ _ h => h
                   ·(refine Or.inl ⟨by rfl, ?_⟩; intro w_ hSw_; (try dsimp only at hSw_); go_simp; (try with_reducible rfl))
                   ·assumption
                   (try simp only [Act.put, Lp0, Lp1, Lp2])
                   refine' Ords.takeK (i := 30) ?_ ?_ ?_ ?_ ?_ ?_
                   rotate_left 2
                   ·(simp only [List.getElem?_toArray, List.getElem?_cons_succ, List.getElem?_cons_zero]; rfl)
                   ·decide +kernel
                   ·exact fun _ _ _ h => h
                   ·(refine Or.inl ⟨by rfl, ?_⟩; intro w_ hSw_; (try dsimp only at hSw_); go_simp; (try with_reducible rfl))
                   ·assumption
                   (try simp only [Act.put, Lp0, Lp1, Lp2])
                   refine' Ords.takeK (i := 31) ?_ ?_ ?_ ?_ ?_ ?_
                   rotate_left 2
                   ·(simp only [List.getElem?_toArray, List.getElem?_cons_succ, List.getElem?_cons_zero]; rfl)
                   ·decide +kernel
                   ·exact fun _ _ _ h => h
                   ·(refine Or.inl ⟨by rfl, ?_⟩; intro w_ hSw_; (try dsimp only at hSw_); go_simp; (try with_reducible rfl))
                   ·assumption
                   (try simp only [Act.put, Lp0, Lp1, Lp2])
                   refine' Ords.takeK (i := 32) ?_ ?_ ?_ ?_ ?_ ?_
                   rotate_left 2
                   ·(simp only [List.getElem?_toArray, List.getElem?_cons_succ, List.getElem?_cons_zero]; rfl)
                   ·decide +kernel
                   ·exact fun _ _ _ h => h
                   ·(refine Or.inl ⟨by rfl, ?_⟩; intro w_ hSw_; (try dsimp only at hSw_); go_simp; (try with_reducible rfl))
                   ·assumption
                   (try simp only [Act.put, Lp0, Lp1, Lp2])
                   refine' Ords.takeK (i := 33) ?_ ?_ ?_ ?_ ?_ ?_
                   rotate_left 2
                   ·(simp only [List.getElem?_toArray, List.getElem?_cons_succ, List.getElem?_cons_zero]; rfl)
                   ·decide +kernel
                   ·exact fun _ _ _ h => h
                   ·(refine Or.inl ⟨by rfl, ?_⟩; intro w_ hSw_; (try dsimp only at hSw_); go_simp; (try with_reducible rfl))
                   ·assumption
                   (try simp only [Act.put, Lp0, Lp1, Lp2])
                   refine' Ords.takeK (i := 34) ?_ ?_ ?_ ?_ ?_ ?_
                   rotate_left 2
                   ·(simp only [List.getElem?_toArray, List.getElem?_cons_succ, List.getElem?_cons_zero]; rfl)
                   ·decide +kernel
                   ·exact fun _ _ _ h => h
                   ·(refine Or.inl ⟨by rfl, ?_⟩; intro w_ hSw_; (try dsimp only at hSw_); go_simp; (try with_reducible rfl))
                   ·assumption
                   (try simp only [Act.put, Lp0, Lp1, Lp2])
                   refine' Ords.takeK (i := 35) ?_ ?_ ?_ ?_ ?_ ?_
                   rotate_left 2
                   ·(simp only [List.getElem?_toArray, List.getElem?_cons_succ, List.getElem?_cons_zero]; rfl)
                   ·decide +kernel
                   ·exact fun _ _ _ h => h
                   ·(refine Or.inl ⟨by rfl, ?_⟩; intro w_ hSw_; (try dsimp only at hSw_); go_simp; (try with_reducible rfl))
                   ·assumption
                   (try simp only [Act.put, Lp0, Lp1, Lp2])
                   refine' Ords.takeK (i := 36) ?_ ?_ ?_ ?_ ?_ ?_
                   rotate_left 2
                   ·(simp only [List.getElem?_toArray, List.getElem?_cons_succ, List.getElem?_cons_zero]; rfl)
                   ·decide +kernel
                   ·exact fun _ _ _ h => h
                   ·(refine Or.inl ⟨by rfl, ?_⟩; intro w_ hSw_; (try dsimp only at hSw_); go_simp; (try with_reducible rfl))
                   ·assumption
                   (try simp only [Act.put, Lp0, Lp1, Lp2])
                   refine' Ords.takeK (i := 37) ?_ ?_ ?_ ?_ ?_ ?_
                   rotate_left 2
                   ·(simp only [List.getElem?_toArray, List.getElem?_cons_succ, List.getElem?_cons_zero]; rfl)
                   ·decide +kernel
                   ·exact fun _ _ _ h => h
                   ·(refine Or.inl ⟨by rfl, ?_⟩; intro w_ hSw_; (try dsimp only at hSw_); go_simp; (try with_reducible rfl))
                   ·assumption
                   (try simp only [Act.put, Lp0, Lp1, Lp2])
                   refine' Ords.takeK (i := 38) ?_ ?_ ?_ ?_ ?_ ?_
                   rotate_left 2
                   ·(simp only [List.getElem?_toArray, List.getElem?_cons_succ, List.getElem?_cons_zero]; rfl)
                   ·decide +kernel
                   ·exact fun _ _ _ h => h
                   ·(refine Or.inl ⟨by rfl, ?_⟩; intro w_ hSw_; (try dsimp only at hSw_); go_simp; (try with_reducible rfl))
                   ·assumption
                   (try simp only [Act.put, Lp0, Lp1, Lp2])
                   refine' Ords.takeK (i := 39) ?_ ?_ ?_ ?_ ?_ ?_
                   rotate_left 2
                   ·(simp only [List.getElem?_toArray, List.getElem?_cons_succ, List.getElem?_cons_zero]; rfl)
                   ·decide +kernel
                   ·exact fun _ _ _ h => h
                   ·(refine Or.inl ⟨by rfl, ?_⟩; intro w_ hSw_; (try dsimp only at hSw_); go_simp; (try with_reducible rfl))
                   ·assumption
                   (try simp only [Act.put, Lp0, Lp1, Lp2])
                   refine' Ords.takeK (i := 40) ?_ ?_ ?_ ?_ ?_ ?_
                   rotate_left 2
                   ·(simp only [List.getElem?_toArray, List.getElem?_cons_succ, List.getElem?_cons_zero]; rfl)
                   ·decide +kernel
                   ·exact fun _ _ _ h => h
                   ·(refine Or.inl ⟨by rfl, ?_⟩; intro w_ hSw_; (try dsimp only at hSw_); go_simp; (try with_reducible rfl))
                   ·assumption
                   (try simp only [Act.put, Lp0, Lp1, Lp2])
                   refine' Ords.takeK (i := 41) ?_ ?_ ?_ ?_ ?_ ?_
                   rotate_left 2
                   ·(simp only [List.getElem?_toArray, List.getElem?_cons_succ, List.getElem?_cons_zero]; rfl)
                   ·decide +kernel
                   ·exact fun _ _ _ h => h
                   ·(refine Or.inl ⟨by rfl, ?_⟩; intro w_ hSw_; (try dsimp only at hSw_); go_simp; (try with_reducible rfl))
                   ·assumption
                   (try simp only [Act.put, Lp0, Lp1, Lp2])
                   refine' Ords.last (by decide +kernel) (by simp only [List.getElem?_toArray, List.getElem?_cons_succ, List.getElem?_cons_zero]; rfl) (by decide +kernel) (fun K hK => ?_)
                   go_simp
                   (try go_wp2_with fail)
                   refine hK.out _ _ ?_
                   clear hK K
                   (try simp only [Act.put, Lp0, Lp1, Lp2])
                   have rz : ((((y3.setCell ⟨gc, 4, none⟩ (.int .i64 (bx : Int))).setCell ⟨gc, 5, none⟩ (.int .i64 (bY : Int))).setCell ⟨gc, 6, none⟩ (.int .i64 bw)).setCell ⟨gc, 7, none⟩ (.int .i64 bh)).rangeAt gc 0 [.int .i64 (r : Int), .int .i64 (c : Int), .int .i64 (rs : Int), .int .i64 (cs : Int), .int .i64 (bx : Int), .int .i64 (bY : Int), .int .i64 bw, .int .i64 bh] := rng_setI (i := 7) (rng_setI (i := 6) (rng_setI (i := 5) (rng_setI (i := 4) rkd (by simp)) (by simp)) (by simp)) (by simp)
                   have hge : wr.heap.size ≤ gc := by omega
                   have hbz := below_set (below_set (below_set (below_set hvd hge 4 (.int .i64 (bx : Int))) hge 5 (.int .i64 (bY : Int))) hge 6 (.int .i64 bw)) hge 7 (.int .i64 bh)
                   obtain ⟨z, hz⟩ : ∃ z, (((y3.setCell ⟨gc, 4, none⟩ (.int .i64 (bx : Int))).setCell ⟨gc, 5, none⟩ (.int .i64 (bY : Int))).setCell ⟨gc, 6, none⟩ (.int .i64 bw)).setCell ⟨gc, 7, none⟩ (.int .i64 bh) = z := ⟨_, rfl⟩
                   rw [hz] at rz hbz ⊢
                   clear hz hHeld rkd hvd mfd mld m4 m5 m6 m7 w1 w2 w3 w4 w5 w6 w7 w8 l1 l2 l3 l4 l1i l2i l3i l4i
                   have hbA : Below z.heap.size z (z.alloc (.cells #[.int .i64 (r : Int), .int .i64 (c : Int), .int .i64 (rs : Int), .int .i64 (cs : Int), .int .i64 (bx : Int), .int .i64 (bY : Int), .int .i64 bw, .int .i64 bh] 38)) := (Below.refl _ _).alloc (Nat.le_refl _) _
                   have hWa := hW.below (bel_step hbz hbA)
                   have zsz := hbz.size
                   have wsz := hW.bt.size
                   have t2z := keep_cell hbz hW.c2
                   have n0 : z.cell? ⟨gc, 0, none⟩ = some (.int .i64 (r : Int)) := rz 0 _ rfl
                   have n1 : z.cell? ⟨gc, 1, none⟩ = some (.int .i64 (c : Int)) := rz 1 _ rfl
                   have n2 : z.cell? ⟨gc, 2, none⟩ = some (.int .i64 (rs : Int)) := rz 2 _ rfl
                   have n3 : z.cell? ⟨gc, 3, none⟩ = some (.int .i64 (cs : Int)) := rz 3 _ rfl
                   have n4 : z.cell? ⟨gc, 4, none⟩ = some (.int .i64 (bx : Int)) := rz 4 _ rfl
                   have n5 : z.cell? ⟨gc, 5, none⟩ = some (.int .i64 (bY : Int)) := rz 5 _ rfl
                   have n6 : z.cell? ⟨gc, 6, none⟩ = some (.int .i64 bw) := rz 6 _ rfl
                   have n7 : z.cell? ⟨gc, 7, none⟩ = some (.int .i64 bh) := rz 7 _ rfl
                   have hr := rng_alloc (w := z) (cs := [.int .i64 (r : Int), .int .i64 (c : Int), .int .i64 (rs : Int), .int .i64 (cs : Int), .int .i64 (bx : Int), .int .i64 (bY : Int), .int .i64 bw, .int .i64 bh]) (t := 38)
                   have hOa := hWa.o
                   replace hWa := hid hWa
                   clear rz hbA hW hbz
                   go_wp2_with (at_builtin; go_loud (refine Knd.app1 CeKo rfl (.tmp 348) (.tmp 350) rfl x3.heap.size (.slice A6 Ln c6) (WK r c) ⟨(r : Int), (c : Int), (rs : Int), (cs : Int), ⟨(bx : Int), (bY : Int), bw, bh⟩⟩ z.heap.size rfl hOa rfl hr (by omega) (by simp only [World.size_alloc]; omega) ?_); intro v' w' hO' hg' hat'; go_loud (obtain ⟨A7, c7, e6⟩ := hO'.form CeKo; obtain ⟨L7, hL7⟩ : ∃ m, (WK r c ++ [(⟨(r : Int), (c : Int), (rs : Int), (cs : Int), ⟨(bx : Int), (bY : Int), bw, bh⟩⟩ : Ce)]).length = m := ⟨_, rfl⟩; rw [hL7] at e6; replace hL7 := hid hL7; subst e6; obtain ⟨t2b, hzT, hWn⟩ := hWa.out.app lT hO' hg'; have hfT := hzT.fr; have hlT := hzT.lt; rw [← hcat.out] at hWn; replace hWn := hid hWn; clear hg' hat' hO' hWa hOa hr n0 n1 n2 n3 n4 n5 n6 n7 t2z hzT))
                   clear t2b hfT hlT
                   go_roundw
                   case rel => exact ⟨c + 1, _, by go_num, by omega, hWn.out⟩
                   case measure => simp [intOf]; omega
                ·obtain rfl : c = n := by omega
                 have hci : ¬ (c : Int) < (c : Int) := by omega
                 rw [hFr.out] at hW
                 replace hW := hid hW
                 go_wp2
                 go_roundw
                 case rel => exact ⟨r + 1, _, by go_num, by omega, hW.out⟩
                 case measure => simp [intOf]; omega
              ·obtain rfl : r = m := by omega
               have hri : ¬ (r : Int) < (r : Int) := by omega
               as_aux_lemma =>
                obtain ⟨-, -, ⟨b0, b1⟩, hpx, HB⟩ := hKp.out wr hW.bt
                obtain ⟨A7, c7, rfl⟩ := hW.o.form CeKo
                have hr7 := (hW.o.rd2 CeKo).1
                have t0 := hW.c0
                have t1 := hW.c1
                have t2 := hW.c2
                obtain ⟨hrl, hgr, hwi⟩ := hfin.out
                clear hKp hF1 hF2 hF3 hF0 hFs hFr hFz hfin hW hx4 hy4 hxm hym hwn1 hwm1 hsc hso hE hWx hHy hX1 hX2 hY1 hY2 lw lT hx3s
                have hwT : IntKind.i64.wrap ((T : Int) + 1) = (T : Int) + 1 := by rw [IntKind.wrap_i64]; omega
                have c7m := Nat.le_trans hr7.cap hr7.max
                obtain ⟨L7, hL7⟩ : ∃ x, (WK r 0).length = x := ⟨_, rfl⟩
                have hS := hid fun (V : World) (A8 : Option Addr) (c8 : Nat) (h8 : CeK.Rd V A8 c8 (WK r 0)) (h7 : CeK.Rd V A7 c7 (WK r 0)) => (show Calls Try.prog 11 #[.agg #[.int .i64 (r : Int), .int .i64 (n : Int), .slice A8 L7 c8], .agg #[.int .i64 (r : Int), .int .i64 (n : Int), .slice A7 L7 c7]] V (RetB V true) from by
                 have := Same_g (r : Int) (n : Int) (r : Int) (n : Int) (WK r 0) (WK r 0) A8 A7 c8 c7 h8 h7
                 rw [hL7, decide_eq_true ⟨rfl, rfl, rfl⟩] at this
                 exact this)
                have hR := hid fun (V : World) (h : PxA V g E) => (show Calls Try.prog 8 #[.agg #[.int .i64 (W : Int), .int .i64 (H : Int), .slice (some ⟨g, 0, none⟩) nd q], .int .i64 ((T : Int) + 1)] V (RetRL V (rl, 0)) from by
                 have := TRul_g ⟨(W : Int), (H : Int), E⟩ (some ⟨g, 0, none⟩) q ((T : Int) + 1) (h.rd (by rw [hlE.out]; exact hq1) hq2)
                 rw [hrl] at this
                 dsimp only at this
                 rw [hlE.out] at this
                 exact this)
                have hG := hid fun (V : World) (B8 : Option Addr) (d8 : Nat) (h : RuK.Rd V B8 d8 rl) => (show Calls Try.prog 9 #[.slice B8 rl.length d8] V (RetGr V (⟨(r : Int), (n : Int), WK r 0⟩, 0)) from by
                 have := TGrid_g rl B8 d8 h
                 rw [hgr] at this
                 exact this)
                have hU := hid fun (V : World) (B8 : Option Addr) (d8 : Nat) (h : RuK.Rd V B8 d8 rl) (hp : PxA V g E) => (show Calls Try.prog 10 #[.agg #[.int .i64 (W : Int), .int .i64 (H : Int), .slice (some ⟨g, 0, none⟩) nd q], .slice B8 rl.length d8] V (RetBE V (⟨(W : Int), (H : Int), List.replicate (W * H) false⟩, 0)) from by
                 have := TWit_g ⟨(W : Int), (H : Int), E⟩ (some ⟨g, 0, none⟩) q rl B8 d8 (hp.rd (by rw [hlE.out]; exact hq1) hq2) h
                 rw [hwi] at this
                 dsimp only at this
                 rw [hlE.out] at this
                 exact this)
                have hN := hid fun (V : World) (A9 : Option Addr) (c9 : Nat) (h : BoK.Rd V A9 c9 (List.replicate (W * H) false)) => (show Calls Try.prog 12 #[.slice A9 nd c9] V (RetI V 0) from by
                 have := Weight_g (List.replicate (W * H) false) A9 c9 h (by rw [List.length_replicate, ← hnp.out]; omega)
                 rw [List.length_replicate, ← hnp.out, show (List.replicate nd false).countP (· == true) = 0 from by rw [List.countP_replicate]; simp] at this
                 exact this)
                clear hrl hgr hwi
                rw [hL7] at t2 c7m
                replace hL7 := hid hL7
                go_upto_region 46 with fail
                refine enterR (P := fun u => Code.wp _ _ _ _ u) (c := [.int .i64 (W : Int), .int .i64 (H : Int), .slice (some ⟨g, 0, none⟩) nd q]) ?_
                intro z1 hv rp zp hsp
                replace HB := bel_step HB hv
                replace hpx := hpx.below hv
                replace t0 := keep_cell hv t0
                replace t1 := keep_cell hv t1
                replace t2 := keep_cell hv t2
                replace hr7 := hr7.below hv
                clear b0 b1 zp hsp hv
                have p0 : z1.cell? ⟨wr.heap.size, 0, none⟩ = some (.int .i64 (W : Int)) := rp 0 _ rfl
                have p1 : z1.cell? ⟨wr.heap.size, 1, none⟩ = some (.int .i64 (H : Int)) := rp 1 _ rfl
                have p2 : z1.cell? ⟨wr.heap.size, 2, none⟩ = some (.slice (some ⟨g, 0, none⟩) nd q) := rp 2 _ rfl
                obtain ⟨gp, hgp⟩ : ∃ x, wr.heap.size = x := ⟨_, rfl⟩
                rw [hgp] at p0 p1 p2 ⊢
                clear hgp rp
                go_wp2_with fail
                refine (hR.out _ hpx).mono ?_
                rintro e z2 ⟨B8, d8, rfl, hrl, hv⟩
                replace HB := bel_step HB hv
                replace hpx := hpx.below hv
                replace t0 := keep_cell hv t0
                replace t1 := keep_cell hv t1
                replace t2 := keep_cell hv t2
                replace hr7 := hr7.below hv
                replace p0 := keep_cell hv p0
                replace p1 := keep_cell hv p1
                replace p2 := keep_cell hv p2
                clear hv hR hwT
                dsimp only at hrl ⊢
                have d8m := Nat.le_trans hrl.cap hrl.max
                obtain ⟨nl, hnl⟩ : ∃ x, rl.length = x := ⟨_, rfl⟩
                rw [hnl] at hG hU d8m ⊢
                clear hnl
                go_wp2_with fail
                refine (hG.out _ B8 d8 hrl).mono ?_
                rintro e z3 ⟨A8, c8, rfl, hr8, hv⟩
                replace HB := bel_step HB hv
                replace hpx := hpx.below hv
                replace t0 := keep_cell hv t0
                replace t1 := keep_cell hv t1
                replace t2 := keep_cell hv t2
                replace hr7 := hr7.below hv
                replace p0 := keep_cell hv p0
                replace p1 := keep_cell hv p1
                replace p2 := keep_cell hv p2
                replace hrl := hrl.below hv
                clear hv hG
                dsimp only at hr8 ⊢
                have c8m := Nat.le_trans hr8.cap hr8.max
                rw [hL7.out] at c8m ⊢
                go_upto_region 48 with fail
                refine enterR (P := fun u => Code.wp _ _ _ _ u) (c := [.int .i64 (r : Int), .int .i64 (n : Int), .slice A8 L7 c8]) ?_
                intro z4 hv rp zp hsp
                replace HB := bel_step HB hv
                replace hpx := hpx.below hv
                replace t0 := keep_cell hv t0
                replace t1 := keep_cell hv t1
                replace t2 := keep_cell hv t2
                replace hr7 := hr7.below hv
                replace p0 := keep_cell hv p0
                replace p1 := keep_cell hv p1
                replace p2 := keep_cell hv p2
                replace hrl := hrl.below hv
                replace hr8 := hr8.below hv
                clear zp hsp hv
                have s0 : z4.cell? ⟨z3.heap.size, 0, none⟩ = some (.int .i64 (r : Int)) := rp 0 _ rfl
                have s1 : z4.cell? ⟨z3.heap.size, 1, none⟩ = some (.int .i64 (n : Int)) := rp 1 _ rfl
                have s2 : z4.cell? ⟨z3.heap.size, 2, none⟩ = some (.slice A8 L7 c8) := rp 2 _ rfl
                obtain ⟨gs, hgs⟩ : ∃ x, z3.heap.size = x := ⟨_, rfl⟩
                rw [hgs] at s0 s1 s2 ⊢
                clear hgs rp
                go_wp2_with fail
                refine (hU.out _ B8 d8 hrl hpx).mono ?_
                rintro e z5 ⟨A9, c9, rfl, hr9, hv⟩
                replace HB := bel_step HB hv
                replace hpx := hpx.below hv
                replace t0 := keep_cell hv t0
                replace t1 := keep_cell hv t1
                replace t2 := keep_cell hv t2
                replace hr7 := hr7.below hv
                replace s0 := keep_cell hv s0
                replace s1 := keep_cell hv s1
                replace s2 := keep_cell hv s2
                replace hr8 := hr8.below hv
                clear hv hU hrl p0 p1 p2 hpx
                dsimp only at hr9 ⊢
                have c9m := Nat.le_trans hr9.cap hr9.max
                rw [List.length_replicate, ← hnp.out] at c9m ⊢
                go_upto_region 49 with fail
                refine enterR (P := fun u => Code.wp _ _ _ _ u) (c := [.int .i64 (W : Int), .int .i64 (H : Int), .slice A9 nd c9]) ?_
                intro z6 hv rp zp hsp
                replace HB := bel_step HB hv
                replace t0 := keep_cell hv t0
                replace t1 := keep_cell hv t1
                replace t2 := keep_cell hv t2
                replace s0 := keep_cell hv s0
                replace s1 := keep_cell hv s1
                replace s2 := keep_cell hv s2
                replace hr7 := hr7.below hv
                replace hr8 := hr8.below hv
                replace hr9 := hr9.below hv
                clear zp hsp hv
                have f2 : z6.cell? ⟨z5.heap.size, 2, none⟩ = some (.slice A9 nd c9) := rp 2 _ rfl
                obtain ⟨gf, hgf⟩ : ∃ x, z5.heap.size = x := ⟨_, rfl⟩
                rw [hgf] at f2 ⊢
                clear hgf rp
                go_wp2_with fail
                refine (hS.out _ A8 c8 hr8 hr7).mono ?_
                rintro e z7 ⟨rfl, hv⟩
                replace HB := bel_step HB hv
                replace f2 := keep_cell hv f2
                replace hr9 := hr9.below hv
                clear hv hS hr7 hr8 t0 t1 t2 s0 s1 s2
                go_wp2_with fail
                refine (hN.out _ A9 c9 hr9).mono ?_
                rintro e z8 ⟨rfl, hv⟩
                replace HB := bel_step HB hv
                replace f2 := keep_cell hv f2
                clear hv hN hr9
                go_wp2_with fail
                refine (alive_ok _).mono ?_
                rintro e wa ⟨rfl, hva⟩
                replace HB := bel_step HB hva
                go_wp2
                go_ret
                exact ⟨rfl, HB⟩
end Go.Proofs.Ytjfgklhifhaaoaa
