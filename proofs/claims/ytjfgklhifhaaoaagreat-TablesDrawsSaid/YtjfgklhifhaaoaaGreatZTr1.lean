/- Tables: the reference's sum of sizes, and the pixels of its lines. Conditions: numbers from 1 to 4096. -/
import Derived.Test.YtjfgklhifhaaoaaGreatZTw5
import Derived.Test.YtjfgklhifhaaoaaGreatZTn16
set_option linter.unusedVariables false
set_option linter.unusedSimpArgs false
namespace Go.Proofs.YtjfgklhifhaaoaaGreat
open Go.RowKit
def exrK (l : List Int) (t : Int) (i : Nat) : Int := (l.take i).foldl (extS t) t
theorem exrK_succ {l : List Int} {t : Int} {i : Nat} (h : i < l.length) : exrK l t (i + 1) = min (exrK l t i + l[i] + t) 12288 := by
 unfold exrK
 rw [List.take_succ_eq_append_getElem h, List.foldl_append]; rfl
theorem exr_bad {l : List Int} {t : Int} {i : Nat} (h : i < l.length) (hb : badI l[i] = true) : extR l t = -1 := by
 unfold extR
 rw [if_pos]
 rw [List.any_eq_true]
 exact ⟨_, List.getElem_mem h, hb⟩
theorem exr_all {l : List Int} {t : Int} (h : ∀ j (hj : j < l.length), badI l[j] = false) : extR l t = exrK l t l.length := by
 unfold extR exrK
 rw [if_neg, List.take_length]
 rw [Bool.not_eq_true, List.any_eq_false]
 intro x hx
 obtain ⟨j, hj, rfl⟩ := List.getElem_of_mem hx
 rw [h j hj]; simp
theorem sum_ext (t : Int) (h1 : 1 ≤ t) : ∀ (l : List Int) (s : Nat), (∀ n ∈ l, 1 ≤ n) → (((toN l).foldl (fun s n => s + t.toNat + n) s : Nat) : Int) + t = l.foldl (fun s n => s + (n + t)) ((s : Int) + t)
 | [], s, _ => rfl
 | n :: l, s, h => by
  have hn := h n (List.mem_cons_self ..)
  show (((toN l).foldl (fun s n => s + t.toNat + n) (s + t.toNat + n.toNat) : Nat) : Int) + t = l.foldl (fun s n => s + (n + t)) ((s : Int) + t + (n + t))
  rw [sum_ext t h1 l _ fun x hx => h x (List.mem_cons_of_mem _ hx)]
  congr 1; omega
theorem sumK_ext {l : List Int} {t : Int} (h1 : 1 ≤ t) (h : ∀ n ∈ l, 1 ≤ n) : ((sumK (toN l) t.toNat : Nat) : Int) + t = extE l t := by
 have := sum_ext t h1 l 0 h
 unfold sumK extE
 rw [this, show ((0 : Nat) : Int) + t = t by omega]
set_option maxHeartbeats 2000000 in
theorem RExt_g (l : List Int) (A : Option Addr) (c : Nat) (t : Int) {w : World} (hl : InK.Rd w A c l) (h1 : 1 ≤ t) (h2 : t ≤ 4096) :
  Calls Tryz.prog 46 #[.slice A l.length c, .int .i64 t] w (RetI w (extR l t)) := by
 obtain ⟨n, hn⟩ : ∃ n, l.length = n := ⟨_, rfl⟩
 have hM := hid fun (j : Nat) (hj : j < n) (W : World) (hb : Below w.heap.size w W) => (hl.below hb).at_ (j := j) (by omega)
 have cc := Nat.le_trans hl.cap hl.max
 have hB := hid fun (i : Nat) (h : i < l.length) hb => exr_bad (t := t) h hb
 have hE := hid fun h => (show extR l t = exrK l t n from (exr_all (l := l) (t := t) h).trans (by rw [hn]))
 have hS := hid fun (i : Nat) (h : i < l.length) => exrK_succ (t := t) h
 have h0 : exrK l t 0 = t := rfl
 rw [hn] at cc ⊢
 replace hn := hid hn
 generalize extR l t = R at *
 generalize exrK l t = K at *
 have hmn := fun (a b : Int) (W : World) => run_min2 (P := Tryz.prog) W #[3, 3] 3 a b
 clear hl
 have HB := Below.refl w.heap.size w
 go_enter Tryz.func46, Tryz.ntmps46
 go_wp2
 go_loopw [6, 5] (fun s6 s5 wr => ∃ i : Nat, s6 = .int .i64 i ∧ s5 = .int .i64 (K i) ∧ i ≤ n ∧ (1 ≤ K i ∧ K i ≤ 12288) ∧ Hid (∀ j (hj : j < l.length), j < i → badI l[j] = false) ∧ Below w.heap.size w wr) (fun s6 _ _ => n - (intOf s6).toNat)
 case atStart => exact ⟨0, rfl, by rw [h0], by omega, by rw [h0]; omega, fun j _ h => by omega, HB⟩
 case round =>
  clear HB
  obtain ⟨i, rfl, rfl, hi, ⟨k1, k2⟩, hA, HB⟩ := hrel
  by_cases hin : i < n
  ·have hii : (i : Int) < (n : Int) := by omega
   have hil : i < l.length := by have := hn.out; omega
   obtain ⟨b, o, hA3, hc⟩ := hM.out i hin wr HB
   have e0 : wr.cell? ⟨b, o + i * 1, none⟩ = some (.int .i64 l[i]) := hc 0 _ rfl
   rw [Nat.mul_one] at e0
   subst hA3
   have hs := hid (hS.out i hil)
   have hbd := hid (fun h => hB.out i hil h)
   have hb2 := hid fun (h : badI l[i] = false) (j : Nat) (h1 : j < l.length) (hj : j < i + 1) => (show badI l[j] = false from by
    by_cases e : j = i
    ·subst e; exact h
    ·exact hA.out j h1 (by omega))
   clear hc h0 hA
   generalize l[i] = q at *
   by_cases q1 : q < 1
   ·obtain rfl := hbd.out (by rw [badI_iff]; omega)
    clear hM hE hB hb2 hbd hS hs
    go_wp2
    go_ret
    exact ⟨rfl, HB⟩
   ·by_cases q2 : 4096 < q
    ·obtain rfl := hbd.out (by rw [badI_iff]; omega)
     clear hM hE hB hb2 hbd hS hs
     go_wp2
     go_ret
     exact ⟨rfl, HB⟩
    ·have hA2 := hid (hb2.out (by rw [Bool.eq_false_iff, ne_eq, badI_iff]; omega))
     have w1 : IntKind.i64.wrap (K i + q) = K i + q := by rw [IntKind.wrap_i64]; omega
     have w2 : IntKind.i64.wrap (K i + q + t) = K i + q + t := by rw [IntKind.wrap_i64]; omega
     have g1 : 1 ≤ min (K i + q + t) 12288 ∧ min (K i + q + t) 12288 ≤ 12288 := by omega
     replace g1 := hid g1
     clear hM hE hB hb2 hbd hS k1 k2
     go_wp2
     go_roundw
     case rel => exact ⟨i + 1, by go_num, by rw [hs.out], by omega, by rw [hs.out]; exact g1.out, hA2, HB⟩
     case measure => simp [intOf]; omega
  ·obtain rfl : i = n := by omega
   have hii : ¬ (i : Int) < (i : Int) := by omega
   have he := hid (hE.out fun j hj => hA.out j hj (by have := hn.out; omega))
   clear hM
   go_wp2
   go_ret
   exact ⟨by rw [he.out]; rfl, HB⟩
/-! the pixels of the lines -/
def lndD (l : List Nat) (t N i : Nat) : List Bool := if i ≤ l.length then (lndK l t N i).2 else lndL l t N
theorem lndD_len (l : List Nat) (t N i : Nat) : (lndD l t N i).length = N := by
 unfold lndD
 split
 ·exact lndK_len ..
 ·exact lndL_len ..
theorem lndD_zero (l : List Nat) (t N : Nat) : lndD l t N 0 = List.replicate N false := by
 unfold lndD
 rw [if_pos (Nat.zero_le _)]; rfl
theorem lndD_end (l : List Nat) (t N : Nat) : lndD l t N (l.length + 1) = lndL l t N := by
 unfold lndD
 rw [if_neg (by omega)]
theorem lndD_step {l : List Nat} {t N i : Nat} (h : i ≤ l.length) : setR (lndD l t N i) (lndK l t N i).1 t = lndD l t N (i + 1) := by
 unfold lndD
 rw [if_pos h]
 by_cases e : i < l.length
 ·rw [if_pos (by omega), lndK_succ e]; rfl
 ·obtain rfl : i = l.length := by omega
  rw [if_neg (by omega)]; rfl
theorem lndX_succ {l : List Nat} {t N i : Nat} (h : i < l.length) : (lndK l t N (i + 1)).1 = (lndK l t N i).1 + t + l[i] := by rw [lndK_succ h]; rfl
/-- pixels that come back -/
def RetPx (w : World) (d : List Bool) (e : Ending) (w' : World) : Prop := ∃ A c, e = .returned (.slice A d.length c) ∧ BoK.Rd w' A c d ∧ Below w.heap.size w w'
set_option maxRecDepth 100000 in
set_option maxHeartbeats 4000000 in
theorem RLin_g (l : List Int) (A : Option Addr) (c : Nat) (t : Int) {w : World} (hl : InK.Rd w A c l) (h1 : 1 ≤ t) (h2 : t ≤ 4096) (hb : ∀ n ∈ l, 1 ≤ n ∧ n ≤ 4096) (hx : extE l t ≤ 4096) (h4 : l.length ≤ 1000) :
  Calls Tryz.prog 47 #[.slice A l.length c, .int .i64 t] w (RetPx w (lndL (toN l) t.toNat (extE l t).toNat)) := by
 obtain ⟨n, hn⟩ : ∃ n, l.length = n := ⟨_, rfl⟩
 have hM := hid fun (j : Nat) (hj : j < n) (W : World) (hb : Below w.heap.size w W) => (hl.below hb).at_ (j := j) (by omega)
 have cc := Nat.le_trans hl.cap hl.max
 have hsum := sumK_ext h1 fun n hn => (hb n hn).1
 have hge := (extE_le hb h1 h2).1
 have hb1 : ∀ n ∈ l, badI n = false := fun n hn => by rw [Bool.eq_false_iff, ne_eq, badI_iff]; have := hb n hn; omega
 have hany : l.any badI = false := by rw [List.any_eq_false]; intro x hx; rw [hb1 x hx]; simp
 have her := (extR_neg (l := l) h1 h2).2 hany
 rw [show min (extE l t) 12288 = extE l t by omega] at her
 have hX0 := hid fun (W : World) (hw : Below w.heap.size w W) => RExt_g l A c t (hl.below hw) h1 h2
 obtain ⟨N, hN⟩ : ∃ N, (extE l t).toNat = N := ⟨_, rfl⟩
 have hNe : extR l t = (N : Int) := by omega
 rw [hNe] at hX0
 obtain ⟨T, rfl⟩ : ∃ T : Nat, t = (T : Int) := ⟨t.toNat, by omega⟩
 have hTT : ((T : Int)).toNat = T := by omega
 rw [hN, hTT]
 rw [hTT] at hsum
 have hTl : (toN l).length = l.length := by unfold toN; simp
 have hsN : sumK (toN l) T + T = N := by omega
 have hD := hid fun (i : Nat) (h : i ≤ n) => lndD_step (l := toN l) (t := T) (N := N) (i := i) (by omega)
 have hDl := hid fun (i : Nat) => lndD_len (toN l) T N i
 have hD0 := hid (lndD_zero (toN l) T N)
 have hDn := hid (show lndD (toN l) T N (n + 1) = lndL (toN l) T N from by rw [← hn, ← hTl]; exact lndD_end ..)
 have hXs := hid fun (i : Nat) (h : i < l.length) => (show (lndK (toN l) T N (i + 1)).1 = (lndK (toN l) T N i).1 + T + l[i].toNat from by
  rw [lndX_succ (by omega)]; unfold toN; simp)
 have hXl := hid fun (i : Nat) (h : i ≤ n) => (show (lndK (toN l) T N i).1 + T ≤ N from by have := lndK_le (l := toN l) (t := T) (N := N) (i := i) (by omega); omega)
 have hvv := hid fun (i : Nat) (h : i < l.length) => hb _ (List.getElem_mem h)
 have hXt := hid (show (lndK (toN l) T N (n + 1)).1 = (lndK (toN l) T N n).1 from by
  unfold lndK
  rw [List.take_of_length_le (show (toN l).length ≤ n + 1 by omega), List.take_of_length_le (show (toN l).length ≤ n by omega)])
 have hX00 : (lndK (toN l) T N 0).1 = 0 := rfl
 have hlL := hid (lndL_len (toN l) T N)
 rw [hn] at cc hX0 h4 ⊢
 replace hn := hid hn
 generalize lndL (toN l) T N = R at *
 generalize lndD (toN l) T N = D at *
 obtain ⟨X, hX⟩ : ∃ X : Nat → Nat, (fun i => (lndK (toN l) T N i).1) = X := ⟨_, rfl⟩
 have hXi : ∀ i, (lndK (toN l) T N i).1 = X i := fun i => by rw [← hX]
 simp only [hXi] at hD hXs hXl hX00 hXt
 have hN4 : N ≤ 4096 := by omega
 have hT1 : T ≤ 4096 := by omega
 clear hXi hX hl hb hsum hge hb1 hany her hNe hTT hTl hsN hN hx h1 h2
 go_enter Tryz.func47, Tryz.ntmps47
 go_wp2_with fail
 refine (hX0.out w (Below.refl _ _)).mono ?_
 rintro e v ⟨rfl, HB⟩
 clear hX0
 have hmk := fun (W : World) => makeB W N (by omega) (N : Int) rfl
 go_upto_region 2 with fail
 clear hmk
 rw [show Array.replicate N (bv false) = ((List.replicate N false).map bv).toArray from by simp]
 refine enterR (P := fun u => Code.wp _ _ _ _ u) (c := (List.replicate N false).map bv) ?_
 intro y hby q0 z0 hsy
 have hgl := z0.lt
 obtain ⟨g, hg⟩ : ∃ g, v.heap.size = g := ⟨_, rfl⟩
 have hzw := HB.size
 rw [hg] at q0 z0 hsy hgl ⊢
 have hP0 : PxR y g (D 0) y := PxR.refl (by rw [hD0.out]; exact ⟨q0, z0⟩)
 have hwg : w.heap.size ≤ g := by omega
 have HBy : Below w.heap.size w y := bel_step HB hby
 have hKp := hid fun (W' : World) (D' : List Bool) (h : PxR y g D' W') => (show Below w.heap.size w W' from HBy.trans (h.below hwg HBy.size))
 clear q0 z0 hsy hby HB HBy hD0 hzw hg hgl hwg
 go_wp2
 go_loopw [7, 6] (fun s7 s6 wr => ∃ i : Nat, s7 = .int .i64 i ∧ s6 = .int .i64 (X i : Int) ∧ i ≤ n + 1 ∧ PxR y g (D i) wr) (fun s7 _ _ => n + 1 - (intOf s7).toNat)
 case atStart => exact ⟨0, rfl, by rw [hX00]; rfl, by omega, hP0⟩
 case round =>
  clear hP0 hX00
  obtain ⟨i, rfl, rfl, hi, hR⟩ := hrel
  by_cases hin : i ≤ n
  ·have hii : (i : Int) ≤ (n : Int) := by omega
   have hxl := hXl.out i hin
   have hR1 : PxR y g (setR (D i) (X i) 0) wr := hR.cast (by rw [setR_zero])
   have hDi := hid (hD.out i hin)
   have hDll := hDl.out i
   clear hR
   go_wp2
   obtain ⟨w0, hw0⟩ : ∃ w0, w0 = wr := ⟨_, rfl⟩
   subst hw0
   go_loopw [8] (fun s8 wr => ∃ k : Nat, s8 = .int .i64 k ∧ k ≤ T ∧ PxR y g (setR (D i) (X i) k) wr) (fun s8 _ => T - (intOf s8).toNat)
   case atStart => exact ⟨0, rfl, by omega, hR1⟩
   case round =>
    clear hR1
    obtain ⟨k, rfl, hk, hR⟩ := hrel
    by_cases hkt : k < T
    ·have hki : (k : Int) < (T : Int) := by omega
     have hidx : X i + k < N := by omega
     have hR2 := hid (hR.set (j := X i + k) (by rw [setR_len, hDll]; exact hidx) true)
     rw [setR_succ] at hR2
     obtain ⟨old, hxc⟩ : ∃ v, wr.cell? ⟨g, X i + k, none⟩ = some v := ⟨_, hR.a.cell (j := X i + k) (by rw [setR_len, hDll]; exact hidx)⟩
     have hfz := hR.a.z.fr
     have hw1 : IntKind.i64.wrap ((X i : Int) + (k : Int)) = ((X i + k : Nat) : Int) := by rw [IntKind.wrap_i64]; omega
     clear hR hDi hDll hxl
     generalize X i + k = ix at *
     have hii2 : (ix : Int) < (N : Int) := by omega
     go_wp2
     go_roundw
     case rel => exact ⟨k + 1, by go_num, by omega, hR2.out⟩
     case measure => simp [intOf]; omega
    ·obtain rfl : k = T := by omega
     have hki : ¬ (k : Int) < (k : Int) := by omega
     have hR2 := hid (hR.cast hDi.out)
     have HB := hKp.out wr _ hR
     clear hR hDi
     by_cases hin2 : i < n
     ·have hii3 : (i : Int) < (n : Int) := by omega
      have hil : i < l.length := by have := hn.out; omega
      obtain ⟨b, o, hA3, hc⟩ := hM.out i hin2 wr HB
      have e0 : wr.cell? ⟨b, o + i * 1, none⟩ = some (.int .i64 l[i]) := hc 0 _ rfl
      rw [Nat.mul_one] at e0
      subst hA3
      have hs := hid (hXs.out i hil)
      have hv := hvv.out i hil
      clear hc
      generalize l[i] = q at *
      obtain ⟨q, rfl⟩ := Int.eq_ofNat_of_zero_le (show 0 ≤ q by omega)
      have w1 : IntKind.i64.wrap ((X i : Int) + (k : Int)) = (X i : Int) + (k : Int) := by rw [IntKind.wrap_i64]; omega
      have w2 : IntKind.i64.wrap ((X i : Int) + (k : Int) + (q : Int)) = ((X i + k + q : Nat) : Int) := by rw [IntKind.wrap_i64]; omega
      have hs2 := hid (show X (i + 1) = X i + k + q from by have := hs.out; simpa using this)
      clear hs hv hM hD hXs hvv hXl hxl hDll
      generalize X i + k + q = x1 at *
      go_wp2
      go_roundw
      case rel => exact ⟨i + 1, by go_num, by rw [hs2.out], by omega, hR2.out⟩
      case measure => simp [intOf]; omega
     ·obtain rfl : i = n := by omega
      have hii3 : ¬ (i : Int) < (i : Int) := by omega
      have hs2 := hid (show X (i + 1) = X i from hXt.out)
      clear hM hD hXs hvv hXl hxl hDll HB
      go_wp2
      go_roundw
      case rel => exact ⟨i + 1, by go_num, by rw [hs2.out], by omega, hR2.out⟩
      case measure => simp [intOf]
  ·obtain rfl : i = n + 1 := by omega
   have hii : ¬ ((n + 1 : Nat) : Int) ≤ (n : Int) := by omega
   have hR2 := hid (hR.cast hDn.out)
   have HB := hid (hKp.out wr _ hR)
   clear hR hM hD hXs hvv hXl hDn hKp
   go_wp2
   go_ret
   exact ⟨some ⟨g, 0, none⟩, N, by rw [hlL.out]; rfl, hR2.out.a.rd (by rw [hlL.out]; exact Nat.le_refl _) (by omega), HB.out⟩
end Go.Proofs.YtjfgklhifhaaoaaGreat
