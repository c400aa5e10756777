/- The reference: walks of Valid, limb. Conditions: none. -/
import Derived.Test.YtdkgbkbbbldliaaGreatZYE
import Derived.Test.YtdkgbkbbbldliaaGreatZNtA
set_option linter.unusedVariables false
set_option linter.unusedSimpArgs false
namespace Go.Proofs.YtdkgbkbbbldliaaGreat
open Go.RowKit Big
set_option maxHeartbeats 400000 in
theorem Zh (neg : Bool) (A : Option Addr) (c : Nat) (xs : List Nat) (w : World) (ha : Mg w A c xs) :
  Calls Tryz.prog 86 #[.agg #[.bool neg, .slice A xs.length c]] w fun e w' => e = .returned (.bool (Jb neg xs)) ∧ Below w.heap.size w w' := by
 by_cases h0 : xs = []
 ·subst h0
  have hv : Jb neg [] = !neg := by simp [Jb]
  rw [hv]
  clear ha hv
  go_enter Tryz.func86, Tryz.ntmps86
  go_wp2
  go_ret
  exact ⟨by simp, (Below.refl _ _).alloc (Nat.le_refl _) _⟩
 ·have hl0 : 0 < xs.length := List.length_pos_iff.2 h0
  have hl1 : ((xs.length : Int) == 0) = false := by rw [beq_eq_false_iff_ne]; omega
  have hv : Jb neg xs = (decide (xs.length ≤ 512) && decide (xs.getLast? ≠ some 0)) := by unfold Jb; rw [if_neg h0]
  have hm := ha.max
  have hm2 := ha.cap
  by_cases h5 : xs.length ≤ 512
  ·obtain ⟨b, o, rfl, hB, hc⟩ := ha.rd.at_ (k := xs.length - 1) (by omega)
   have c1 := hc (xs.length - 1) (by omega)
   unfold lim at c1
   have hlast : xs.getLast? = some xs[xs.length - 1] := by rw [List.getLast?_eq_getElem?, List.getElem?_eq_getElem (by omega)]
   rw [hlast] at hv
   generalize xs[xs.length - 1] = t at *
   by_cases ht : t = 0
   ·have hv2 : Jb neg xs = false := by rw [hv]; simp [ht]
    rw [hv2]
    subst ht
    clear hc hlast hv hv2 h0 ha
    go_enter Tryz.func86, Tryz.ntmps86
    go_wp2
    go_ret
    exact ⟨rfl, (Below.refl _ _).alloc (Nat.le_refl _) _⟩
   ·have hv2 : Jb neg xs = true := by rw [hv]; simp [ht, h5]
    have ht1 : ((t : Int) != 0) = true := by rw [bne_iff_ne]; omega
    rw [hv2]
    clear hc hlast hv hv2 h0 ha ht
    go_enter Tryz.func86, Tryz.ntmps86
    go_wp2
    go_ret
    exact ⟨rfl, (Below.refl _ _).alloc (Nat.le_refl _) _⟩
  ·have hv2 : Jb neg xs = false := by rw [hv]; simp [h5]
   rw [hv2]
   clear hv hv2 h0 ha
   go_enter Tryz.func86, Tryz.ntmps86
   go_wp2
   go_ret
   exact ⟨rfl, (Below.refl _ _).alloc (Nat.le_refl _) _⟩
theorem Qu {z : Int} {A : Option Addr} {c : Nat} {w : World} (ha : Mg w A c (limbs z.natAbs)) (h : fits z) :
  Calls Tryz.prog 86 #[.agg #[.bool (decide ((z) < 0)), .slice A (limbs (Int.natAbs (z))).length c]] w fun e w' => e = .returned (.bool true) ∧ Below w.heap.size w w' :=
 (Zh _ A c _ w ha).mono fun e w' ⟨h1, h2⟩ => ⟨by rw [h1, Xu h], h2⟩
/-- limb(m, i): the limb at i, 0 beyond the end -/
theorem Qr (A : Option Addr) (c : Nat) (xs : List Nat) (w : World) (ha : Mg w A c xs) (i : Nat) (hi : i ≤ 1099511627776) :
  Calls Tryz.prog 135 #[.slice A xs.length c, .int .i64 i] w fun e w' => e = .returned (.int .u64 ((xs[i]?.getD 0 : Nat) : Int)) ∧ w = w' := by
 have hm := ha.max
 have hm2 := ha.cap
 by_cases h : i < xs.length
 ·obtain ⟨b, o, rfl, hB, hc⟩ := ha.rd.at_ h
  have c1 := hc i h
  unfold lim at c1
  have hx := ha.ok xs[i] (List.getElem_mem h)
  have e : xs[i]?.getD 0 = xs[i] := by simp [List.getElem?_eq_getElem h]
  rw [e]
  have h1 : (i : Int) < (xs.length : Int) := by omega
  clear hc ha e
  generalize xs[i] = t at *
  go_enter Tryz.func135, Tryz.ntmps135
  go_wp2
  go_ret
  exact ⟨rfl, rfl⟩
 ·have e : xs[i]?.getD 0 = 0 := by simp [List.getElem?_eq_none (show xs.length ≤ i by omega)]
  rw [e]
  have h1 : ¬ (i : Int) < (xs.length : Int) := by omega
  clear ha e
  go_enter Tryz.func135, Tryz.ntmps135
  go_wp2
  go_ret
  exact ⟨rfl, rfl⟩
end Go.Proofs.YtdkgbkbbbldliaaGreat
/- The reference: walks of Trim, signed, limit. Conditions: none. -/
namespace Go.Proofs.YtdkgbkbbbldliaaGreat
open Go.RowKit Big
theorem D5 (w : World) (e : TypeId) : (w.alloc (.cells #[] e)).ownsRow w.heap.size e 1 (.slice (some ⟨w.heap.size, 0, none⟩) 0 0) 0 [] :=
 ⟨rfl, .inr ⟨w.heap.size, 0, #[], rfl, Nat.le_refl _, by rw [heap_alloc_new], Nat.le_refl _, by unfold maxLen; omega, rfl, rfl⟩⟩
theorem X6.alloc {w w' : World} {z err : Int} {e : Ending} (h : X6 w z err e w') (o : Obj) : X6 w z err e (w'.alloc o) := by
 obtain ⟨A, c, h1, h2, h3⟩ := h
 exact ⟨A, c, h1, h2.alloc, h3.alloc h3.size _⟩
theorem RetZ.alloc {w w' : World} {z : Int} {e : Ending} (h : RetZ w z e w') (o : Obj) : RetZ w z e (w'.alloc o) := by
 obtain ⟨A, c, h1, h2, h3⟩ := h
 exact ⟨A, c, h1, h2.alloc, h3.alloc h3.size _⟩
/-- both fields of a box that has just been written, a block behind it -/
theorem box_set {W : World} {g : Nat} {o : Obj} {u0 u1 : Value} (k0 : W.cell? ⟨g, 0, none⟩ = some (.bool false)) (k1 : W.cell? ⟨g, 1, none⟩ = some (.slice none 0 0)) :
  (((W.setCell ⟨g, 0, none⟩ u0).setCell ⟨g, 1, none⟩ u1).alloc o).cell? ⟨g, 0, none⟩ = some u0 ∧ (((W.setCell ⟨g, 0, none⟩ u0).setCell ⟨g, 1, none⟩ u1).alloc o).cell? ⟨g, 1, none⟩ = some u1 :=
 ⟨Kk (K6 (by omega) (Ug k0)), Kk (Ui (K6 (by omega) k1))⟩
/-- limbs in new memory -/
def Zu (w : World) (n : Nat) (e : Ending) (w' : World) : Prop :=
 ∃ A c, e = .returned (.slice A (limbs n).length c) ∧ Mg w' A c (limbs n) ∧ Below w.heap.size w w' ∧ Hid (∀ p, A = some p → w.heap.size ≤ p.block)
theorem Zu.any {w w' : World} {n : Nat} {e : Ending} (h : Zu w n e w') : RetN w n e w' := by
 obtain ⟨A, c, h1, h2, h3, _⟩ := h; exact ⟨A, c, h1, h2, h3⟩
theorem own_fresh {w : World} {base : Nat} {t : TypeId} {A : Option Addr} {n c m : Nat} {xs : List Value} (h : w.ownsRow base t 1 (.slice A n c) m xs) : ∀ p, A = some p → base ≤ p.block := by
 intro p hp
 subst hp
 rcases h.2 with ⟨h1, _⟩ | ⟨g, cap, cur, h1, hbg, _⟩
 ·cases h1
 ·injection h1 with h1
  injection h1 with h1
  subst h1
  exact hbg
/-- a copy of the first k limbs -/
theorem fin_copy {w w' : World} {A : Option Addr} {c : Nat} {xs : List Nat} {v' : Value} (h : Mg w A c xs) (k : Nat) (hk : k ≤ xs.length) (hz : ∀ i, k ≤ i → (hi : i < xs.length) → xs[i] = 0) (hl : k = 0 ∨ ∃ h : k - 1 < xs.length, xs[k - 1] ≠ 0)
  (hown : w'.ownsRow w.heap.size 124 1 v' (xs.take k).length ((xs.take k).map lim)) (hb : Below w.heap.size w w') : Zu w (val xs) (.returned v') w' := by
 have e := G6 h.ok k hk hz hl
 obtain ⟨A', c', rfl, h1, h2, h3⟩ := Ut hown
 have hf := own_fresh hown
 rw [e] at h1 h3 ⊢
 exact ⟨A', c', rfl, ⟨h1, h2, Xd _, h3⟩, hb, hf⟩
set_option maxHeartbeats 400000 in
theorem RTrim_fr (A : Option Addr) (c : Nat) (xs : List Nat) (w : World) (h : Mg w A c xs) (hs : xs.length ≤ 1073741824) :
  Calls Tryz.prog 120 #[.slice A xs.length c] w (Zu w (val xs)) := by
 have hcap := h.cap
 have hmax := h.max
 go_enter Tryz.func120, Tryz.ntmps120
 go_wp2
 go_loop [3] (fun i => ∃ k : Nat, k ≤ xs.length ∧ i = .int .i64 k ∧ Hid (∀ i, k ≤ i → (hi : i < xs.length) → xs[i] = 0)) (fun i => (intOf i).toNat)
 case atStart => exact ⟨xs.length, Nat.le_refl _, rfl, fun i h1 h2 => absurd h1 (by omega)⟩
 case round =>
  obtain ⟨k, hk, rfl, hz⟩ := hrel
  by_cases h0 : 0 < k
  ·have hk1 : k - 1 < xs.length := by omega
   obtain ⟨b, o, rfl, hb, hc⟩ := h.rd.at_ hk1
   have c1 := hc (k - 1) hk1
   unfold lim at c1
   clear hc
   by_cases he : xs[k - 1] = 0
   ·have he1 : ((xs[k - 1] : Int) == 0) = true := by simp [he]
    have HE := hid he
    clear he
    go_wp2
    go_round
    case rel => exact ⟨k - 1, by omega, by go_num, fun i h1 h2 => by
     by_cases hj : i = k - 1
     ·subst hj; exact HE.out
     ·exact hz.out i (by omega) h2⟩
    case measure => simp [intOf]; omega
   ·have he1 : ((xs[k - 1] : Int) == 0) = false := by simp; omega
    have HE := hid he
    clear he
    have hr := (h.rd.take k).below ((Below.refl w.heap.size w).alloc (Nat.le_refl _) (.cells #[] 124))
    go_wp2_with (at_builtin; refine Je rfl (.tmp 18) (.tmp 21) 25 rfl 124 (.int .u32 0) 4 Tryz.underlying25 Qq rfl w.heap.size lim (fun _ => rfl) _ [] rfl (D5 w _) _ c (xs.take k) (by rw [List.length_take, Nat.min_eq_left hk]; rfl) hr (by simp; omega) (by simp; omega) (by simp) ?_; intro v' w2 hown hgr hwh)
    go_ret
    exact fin_copy h k hk hz.out (.inr ⟨hk1, HE.out⟩) hown (((Below.refl _ _).alloc (Nat.le_refl _) _).trans (J3 (D5 w _) hgr (by simp)))
  ·have hk0 : k = 0 := by omega
   subst hk0
   have hr := (Rd.nil (f := lim) (w.alloc (.cells #[] 124)) A)
   go_wp2_with (at_builtin; refine Je rfl (.tmp 18) (.tmp 21) 25 rfl 124 (.int .u32 0) 4 Tryz.underlying25 Qq rfl w.heap.size lim (fun _ => rfl) _ [] rfl (D5 w _) _ c [] rfl hr (by simp) (by simp) (by simp) ?_; intro v' w2 hown hgr hwh)
   go_ret
   exact fin_copy h 0 hk hz.out (.inl rfl) hown (((Below.refl _ _).alloc (Nat.le_refl _) _).trans (J3 (D5 w _) hgr (by simp)))
theorem Ga (A : Option Addr) (c : Nat) (xs : List Nat) (w : World) (h : Mg w A c xs) (hs : xs.length ≤ 1073741824) :
  Calls Tryz.prog 120 #[.slice A xs.length c] w (RetN w (val xs)) := (RTrim_fr A c xs w h hs).mono fun _ _ h => h.any
set_option maxHeartbeats 400000 in
theorem Zq (neg : Bool) (A : Option Addr) (c : Nat) (xs : List Nat) (w : World) (ha : Mg w A c xs) (hs : xs.length ≤ 1073741824) :
  Calls Tryz.prog 88 #[.bool neg, .slice A xs.length c] w (RetZ w (sg neg (val xs))) := by
 have HT := hid fun (w1 : World) (h : Below w.heap.size w w1) => Ga A c xs w1 (ha.below h) hs
 clear ha hs
 generalize val xs = n at *
 generalize xs.length = lx at *
 go_enter Tryz.func88, Tryz.ntmps88
 go_wp2_with fail
 refine (HT.out _ (by repeat (first | assumption | exact Below.refl _ _ | refine Below.alloc ?_ (by simp; try omega) _ | refine Below.drew ?_ | refine Ki ?_ _))).mono ?_
 rintro e w1 ⟨R, cc, rfl, hr, h1⟩
 obtain ⟨p1, p2, p3⟩ := Ks h1
 have b1 : Below w.heap.size w w1 := Below.trans (b := _) (by repeat (first | assumption | exact Below.refl _ _ | refine Below.alloc ?_ (by simp; try omega) _ | refine Below.drew ?_ | refine Ki ?_ _)) (h1.mono (by simp))
 have k0 := p1 0
 have k1 := p1 1
 simp at k0 k1
 by_cases h0 : n = 0
 ·subst h0
  rw [Ko] at *
  simp only [List.length_nil]
  cases neg
  all_goals
   go_wp2
   refine bodyPost_ret (v := .agg #[.bool false, .slice R 0 cc]) ?_ rfl ?_
   ·simp [results, Tryz.results88, go_sem, k0, k1]
   ·rw [Yo]
    exact ⟨R, cc, by simp [Ko], by simpa [Ko] using (Mg.setS (by rw [K0 (by omega)]; exact k1) (Mg.setB k0 hr)), Kg (Kg b1 (by omega) _ _) (by omega) _ _⟩
 ·have hl : 0 < (limbs n).length := by rw [Jk h0]; simp
  have hsn := hid (And.intro (sg_neg neg n h0) (Ja neg n))
  clear h0
  cases neg
  ·go_wp2
   refine bodyPost_ret (v := .agg #[.bool false, .slice R (limbs n).length cc]) ?_ rfl ?_
   ·simp [results, Tryz.results88, go_sem, k0, k1]
   ·exact ⟨R, cc, by rw [hsn.out.1, hsn.out.2], by rw [hsn.out.2]; exact (Mg.setS (by rw [K0 (by omega)]; exact k1) (Mg.setB k0 hr)), Kg (Kg b1 (by omega) _ _) (by omega) _ _⟩
  ·go_wp2
   refine bodyPost_ret (v := .agg #[.bool true, .slice R (limbs n).length cc]) ?_ rfl ?_
   ·simp [results, Tryz.results88, go_sem, k0, k1]
   ·exact ⟨R, cc, by rw [hsn.out.1, hsn.out.2], by rw [hsn.out.2]; exact (Mg.setS (by rw [K0 (by omega)]; exact k1) (Mg.setB k0 hr)), Kg (Kg b1 (by omega) _ _) (by omega) _ _⟩
set_option maxHeartbeats 400000 in
theorem Rlimit_any (neg : Bool) (A : Option Addr) (c : Nat) (xs : List Nat) (w : World) (ha : Mg w A c xs) (hs : xs.length ≤ 1073741824) :
  Calls Tryz.prog 129 #[.bool neg, .slice A xs.length c] w (RetF w (sg neg (val xs))) := by
 have HT := hid fun (w1 : World) (h : Below w.heap.size w w1) => Zq neg A c xs w1 (ha.below h) hs
 clear ha hs
 generalize sg neg (val xs) = z at *
 generalize xs.length = lx at *
 by_cases hf : fits z
 ·have hR : RetF w z = X6 w z 0 := by unfold RetF; rw [J7 hf]
  rw [hR]
  have hl : (limbs z.natAbs).length ≤ 512 := hf
  clear hR hf
  go_enter Tryz.func129, Tryz.ntmps129
  go_wp2_with fail
  refine (HT.out _ (by repeat (first | assumption | exact Below.refl _ _ | refine Below.alloc ?_ (by simp; try omega) _ | refine Below.drew ?_ | refine Ki ?_ _))).mono ?_
  rintro e w1 ⟨R, cc, rfl, hr, h1⟩
  obtain ⟨p1, p2, p3⟩ := Ks h1
  have b1 : Below w.heap.size w w1 := Below.trans (b := _) (by repeat (first | assumption | exact Below.refl _ _ | refine Below.alloc ?_ (by simp; try omega) _ | refine Below.drew ?_ | refine Ki ?_ _)) (h1.mono (by simp))
  have k0 := p1 0
  have k1 := p1 1
  simp at k0 k1
  go_wp2
  refine bodyPost_ret (v := .tuple #[.agg #[.bool (decide ((z) < 0)), .slice R (limbs (Int.natAbs (z))).length cc], .int .i64 0]) ?_ rfl ?_
  ·simp [results, Tryz.results129, go_sem, box_set k0 k1]
  ·exact (Xa hr b1 (Nat.le_refl _) k0 k1 _ _).alloc _
 ·have hR : RetF w z = X6 w 0 4 := by unfold RetF; rw [fitE_no hf]
  rw [hR]
  have hl : 512 < (limbs z.natAbs).length := by unfold fits at hf; omega
  clear hR hf
  go_enter Tryz.func129, Tryz.ntmps129
  go_wp2_with fail
  refine (HT.out _ (by repeat (first | assumption | exact Below.refl _ _ | refine Below.alloc ?_ (by simp; try omega) _ | refine Below.drew ?_ | refine Ki ?_ _))).mono ?_
  rintro e w1 ⟨R, cc, rfl, hr, h1⟩
  obtain ⟨p1, p2, p3⟩ := Ks h1
  have b1 : Below w.heap.size w w1 := Below.trans (b := _) (by repeat (first | assumption | exact Below.refl _ _ | refine Below.alloc ?_ (by simp; try omega) _ | refine Below.drew ?_ | refine Ki ?_ _)) (h1.mono (by simp))
  have k0 := p1 0
  have k1 := p1 1
  simp at k0 k1
  go_wp2
  refine bodyPost_ret (v := .tuple #[.agg #[.bool false, .slice none 0 0], .int .i64 4]) ?_ rfl ?_
  ·simp [results, Tryz.results129, go_sem, box_set k0 k1]
  ·exact (Zf 4 (Kg (Kg b1 (Nat.le_refl _) _ _) (Nat.le_refl _) _ _)).alloc _
end Go.Proofs.YtdkgbkbbbldliaaGreat
/- The reference: walks of order, plus, minus. Conditions: none. -/
namespace Go.Proofs.YtdkgbkbbbldliaaGreat
open Go.RowKit Big
theorem val_cut {xs : List Nat} (ho : Ok xs) (j : Nat) : ∃ l, l < 4294967296 ^ j ∧ val xs = l + 4294967296 ^ j * val (xs.drop j) := by
 rcases Nat.le_total j xs.length with h | h
 ·refine ⟨val (xs.take j), ?_, Z3 xs j h⟩
  have := Ji (ho.take j)
  rwa [List.length_take, Nat.min_eq_left h] at this
 ·refine ⟨val xs, Nat.lt_of_lt_of_le (Ji ho) (Nat.pow_le_pow_right (by decide) h), by rw [Xn xs h]; rfl⟩
theorem ord_at {xs ys : List Nat} (hx : Ok xs) {j : Nat} (h : val (xs.drop (j + 1)) = val (ys.drop (j + 1))) (hlt : lb xs j < lb ys j) (hy : Ok ys) : val xs < val ys := by
 obtain ⟨l, h1, h2⟩ := val_cut hx j
 obtain ⟨m, h3, h4⟩ := val_cut hy j
 rw [h2, h4, Jx xs j, Jx ys j, h]
 generalize 4294967296 ^ j = P at *
 have h5 : P * (lb xs j + 1 + 4294967296 * val (ys.drop (j + 1))) ≤ P * (lb ys j + 4294967296 * val (ys.drop (j + 1))) := Nat.mul_le_mul_left _ (by omega)
 generalize val (ys.drop (j + 1)) = r at *
 simp only [Nat.mul_add, Nat.mul_one] at *
 omega
set_option maxHeartbeats 1000000 in
theorem Hj (A B : Option Addr) (c d : Nat) (xs ys : List Nat) (w : World) (ha : Mg w A c xs) (hb : Mg w B d ys) (hs : xs.length ≤ 1073741824) (ht : ys.length ≤ 1073741824) :
  Calls Tryz.prog 132 #[.slice A xs.length c, .slice B ys.length d] w fun e w' => e = .returned (.int .i64 (ord (val xs) (val ys))) ∧ w = w' := by
 have HX := hid fun (i : Nat) (hi : i ≤ 1099511627776) => Qr A c xs w ha i hi
 have HY := hid fun (i : Nat) (hi : i ≤ 1099511627776) => Qr B d ys w hb i hi
 have OX := hid ha.ok
 have OY := hid hb.ok
 clear ha hb
 change Hid (∀ (i : Nat), i ≤ 1099511627776 → Calls _ _ _ w fun e w' => e = .returned (.int .u64 ((lb xs i : Nat) : Int)) ∧ w = w') at HX
 change Hid (∀ (i : Nat), i ≤ 1099511627776 → Calls _ _ _ w fun e w' => e = .returned (.int .u64 ((lb ys i : Nat) : Int)) ∧ w = w') at HY
 go_enter Tryz.func132, Tryz.ntmps132
 go_wp2
 go_loop [6] (fun i => ∃ k : Nat, k ≤ max xs.length ys.length ∧ i = .int .i64 ((k : Int) - 1) ∧ Hid (val (xs.drop k) = val (ys.drop k))) (fun i => (intOf i + 1).toNat)
 case atStart => exact ⟨max xs.length ys.length, Nat.le_refl _, by congr 1; omega, by unfold Hid; rw [Xn xs (by omega), Xn ys (by omega)]⟩
 case round =>
  obtain ⟨k, hk, rfl, he⟩ := hrel
  by_cases h0 : 0 < k
  ·obtain ⟨j, rfl⟩ : ∃ j, k = j + 1 := ⟨k - 1, by omega⟩
   have e1 : ((j + 1 : Nat) : Int) - 1 = (j : Int) := by omega
   rw [e1]
   have hx := Vc OX.out j
   have hy := Vc OY.out j
   have HR := hid (fun h => Xo (ord_at OX.out he.out h OY.out))
   have HG := hid (fun h => Vi (ord_at OY.out he.out.symm h OX.out))
   have HE := hid (fun h : lb xs j = lb ys j => (show val (xs.drop j) = val (ys.drop j) by rw [Jx xs j, Jx ys j, h, he.out]))
   have HX1 := hid (HX.out j (by omega))
   have HY1 := hid (HY.out j (by omega))
   clear HX HY
   generalize lb xs j = x at *
   generalize lb ys j = y at *
   rcases Nat.lt_trichotomy x y with h | h | h
   ·go_wp2_with fail
    refine HX1.out.mono ?_
    rintro e w1 ⟨rfl, rfl⟩
    go_wp2_with fail
    refine HY1.out.mono ?_
    rintro e w1 ⟨rfl, rfl⟩
    go_wp2_with fail
    go_ret
    exact ⟨by rw [HR.out h] <;> rfl, rfl⟩
   ·have HH := hid (HE.out h)
    subst h
    go_wp2_with fail
    refine HX1.out.mono ?_
    rintro e w1 ⟨rfl, rfl⟩
    go_wp2_with fail
    refine HY1.out.mono ?_
    rintro e w1 ⟨rfl, rfl⟩
    go_wp2_with fail
    refine HX1.out.mono ?_
    rintro e w1 ⟨rfl, rfl⟩
    go_wp2_with fail
    refine HY1.out.mono ?_
    rintro e w1 ⟨rfl, rfl⟩
    go_wp2_with fail
    go_round
    case rel => exact ⟨j, by omega, by first | rfl | go_num, HH⟩
    case measure => simp [intOf] <;> omega
   ·go_wp2_with fail
    refine HX1.out.mono ?_
    rintro e w1 ⟨rfl, rfl⟩
    go_wp2_with fail
    refine HY1.out.mono ?_
    rintro e w1 ⟨rfl, rfl⟩
    go_wp2_with fail
    refine HX1.out.mono ?_
    rintro e w1 ⟨rfl, rfl⟩
    go_wp2_with fail
    refine HY1.out.mono ?_
    rintro e w1 ⟨rfl, rfl⟩
    go_wp2_with fail
    go_ret
    exact ⟨by rw [HG.out h] <;> rfl, rfl⟩
  ·obtain rfl : k = 0 := by omega
   have HH := hid he.out
   rw [List.drop_zero, List.drop_zero] at HH
   go_wp2_with fail
   go_ret
   exact ⟨by rw [HH.out, ord_eq] <;> rfl, rfl⟩
/-- behind one append of a new limb -/
theorem Jz {w wr w5 : World} {v : Value} {D : List Nat} {m : Nat} (hown : wr.ownsRow w.heap.size 124 1 v D.length (D.map lim)) (hbl : Below w.heap.size w wr)
  (hgr : (wr.alloc (.cells #[.int .u32 (m : Int)] 124)).grownBy w5 v.ownBlock) : Below w.heap.size w w5 :=
 (hbl.alloc hbl.size _).trans (J3 (K2 hown ((Below.refl _ _).alloc (Nat.le_refl _) (.cells #[.int .u32 (m : Int)] 124))) hgr (by have := hbl.size; simp; omega))
theorem Dk {w wr : World} {v : Value} {D : List Nat} {n : Nat} (hown : wr.ownsRow w.heap.size 124 1 v D.length (D.map lim)) (hbl : Below w.heap.size w wr) (ho : Ok D) (hl : D.length ≤ 1073741824) (hv : val D = n) :
  Calls Tryz.prog 120 #[v] wr (Zu w n) := by
 obtain ⟨A, c, rfl, h1, h2, h3⟩ := Ut hown
 have h := RTrim_fr A c D wr ⟨h1, h2, ho, h3⟩ hl
 subst hv
 exact h.mono fun e w' ⟨A', c', g1, g2, g3, g4⟩ => ⟨A', c', g1, g2, hbl.trans (g3.mono hbl.size), fun p hp => Nat.le_trans hbl.size (g4.out p hp)⟩
set_option maxHeartbeats 1000000 in
theorem Hw (A B : Option Addr) (c d : Nat) (xs ys : List Nat) (w : World) (ha : Mg w A c xs) (hb : Mg w B d ys) (hs : xs.length ≤ 1048576) (ht : ys.length ≤ 1048576) :
  Calls Tryz.prog 131 #[.slice A xs.length c, .slice B ys.length d] w (Zu w (val xs + val ys)) := by
 have HX := hid fun (w1 : World) (h : Below w.heap.size w w1) (i : Nat) (hi : i ≤ 1099511627776) => Qr A c xs w1 (ha.below h) i hi
 have HY := hid fun (w1 : World) (h : Below w.heap.size w w1) (i : Nat) (hi : i ≤ 1099511627776) => Qr B d ys w1 (hb.below h) i hi
 have OX := hid ha.ok
 have OY := hid hb.ok
 clear ha hb
 change Hid (∀ (w1 : World), Below w.heap.size w w1 → ∀ (i : Nat), i ≤ 1099511627776 → Calls _ _ _ w1 fun e w' => e = .returned (.int .u64 ((lb xs i : Nat) : Int)) ∧ w1 = w') at HX
 change Hid (∀ (w1 : World), Below w.heap.size w w1 → ∀ (i : Nat), i ≤ 1099511627776 → Calls _ _ _ w1 fun e w' => e = .returned (.int .u64 ((lb ys i : Nat) : Int)) ∧ w1 = w') at HY
 go_enter Tryz.func131, Tryz.ntmps131
 go_wp2
 go_loopw [5, 6, 7] (fun s5 s6 s7 wr => ∃ (k q : Nat) (v : Value) (D : List Nat), k ≤ max xs.length ys.length ∧ s7 = .int .i64 k ∧ s6 = .int .u64 q ∧ q ≤ 1 ∧ s5 = v ∧ wr.ownsRow w.heap.size 124 1 v D.length (D.map lim) ∧ Below w.heap.size w wr ∧ Hid (Cry (val xs + val ys) k q (val (xs.drop k) + val (ys.drop k)) D)) (fun _ _ s7 _ => max xs.length ys.length - (intOf s7).toNat)
 case atStart => exact ⟨0, 0, _, [], by omega, rfl, rfl, by omega, rfl, World.ownsRow_nil _ _ _ _, Below.refl _ _, by unfold Hid; have := Cry.start 0 (val xs + val ys); simpa using this⟩
 case round =>
  obtain ⟨k, q, v, D, hk, rfl, rfl, hq, rfl, hown, hbl, hc⟩ := hrel
  have hD := hc.out.len
  by_cases h0 : k < max xs.length ys.length
  ·have hx := Vc OX.out k
   have hy := Vc OY.out k
   have HX1 := hid (HX.out wr hbl k (by omega))
   have HY1 := hid (HY.out wr hbl k (by omega))
   have HC := hid (fun s hs => hc.out.step (t := lb xs k + lb ys k) (R' := val (xs.drop (k + 1)) + val (ys.drop (k + 1))) (s := s) (by rw [Jx xs k, Jx ys k]; omega) hs)
   clear HX HY hc
   generalize lb xs k = x at *
   generalize lb ys k = y at *
   obtain ⟨m, hm⟩ : ∃ m, (x + y + q) % 4294967296 = m := ⟨_, rfl⟩
   obtain ⟨u, hu⟩ : ∃ u, (x + y + q) / 4294967296 = u := ⟨_, rfl⟩
   have hm1 : ((x : Int) + (y : Int) + (q : Int)) % 4294967296 = (m : Int) := by omega
   have hu1 : ((x : Int) + (y : Int) + (q : Int)) / 4294967296 = (u : Int) := by omega
   have hm2 : m < 4294967296 := by omega
   have hu2 : u ≤ 1 := by omega
   have HC2 := hid (HC.out _ rfl)
   rw [hm, hu] at HC2
   clear HC hm hu
   go_wp2_with fail
   refine HX1.out.mono ?_
   rintro e w1 ⟨rfl, rfl⟩
   go_wp2_with fail
   refine HY1.out.mono ?_
   rintro e w1 ⟨rfl, rfl⟩
   have hsz := hbl.size
   go_wp2_with (at_builtin; refine Je rfl (.tmp 27) (.tmp 31) 25 rfl 124 (.int .u32 0) 4 Tryz.underlying25 Qq rfl w.heap.size lim (fun _ => rfl) _ D rfl (K2 hown ((Below.refl _ _).alloc (Nat.le_refl _) (.cells #[.int .u32 (m : Int)] 124))) _ 1 [m] rfl (Za lim _ m 124) (by simp; omega) (by simp; omega) (by simp; omega) ?_; intro v5 w5 hown5 hgr hwh)
   go_roundw
   case rel => exact ⟨k + 1, u, v5, D ++ [m], by omega, by go_num, by rw [hu1], hu2, rfl, hown5, Jz hown hbl hgr, HC2⟩
   case measure => simp [intOf]; omega
  ·obtain rfl : k = max xs.length ys.length := by omega
   have hl := hc.out
   rw [Xn xs (by omega), Xn ys (by omega)] at hl
   have hv := hid hl.last
   have hok := hid (Ue hl.ok (show q < 4294967296 by omega))
   clear HX HY hc hl
   have hsz := hbl.size
   go_wp2_with (first | (at_builtin; refine Je rfl (.tmp 35) (.tmp 38) 25 rfl 124 (.int .u32 0) 4 Tryz.underlying25 Qq rfl w.heap.size lim (fun _ => rfl) _ D rfl (K2 hown ((Below.refl _ _).alloc (Nat.le_refl _) (.cells #[.int .u32 (q : Int)] 124))) _ 1 [q] rfl (Za lim _ q 124) (by simp; omega) (by simp; omega) (by simp; omega) ?_; intro v5 w5 hown5 hgr hwh; have hb5 := Jz hown hbl hgr) | (go_at_call 120; refine (Dk hown5 hb5 hok.out (by simp; omega) hv.out).mono ?_; rintro e w6 ⟨R, cc, rfl, hr1, hr2⟩))
   go_ret
   exact ⟨R, cc, rfl, hr1, hr2⟩
set_option maxHeartbeats 1000000 in
theorem Rminus_fr (A B : Option Addr) (c d : Nat) (xs ys : List Nat) (w : World) (ha : Mg w A c xs) (hb : Mg w B d ys) (hs : xs.length ≤ 1048576) (hl : ys.length ≤ xs.length) (hle : val ys ≤ val xs) :
  Calls Tryz.prog 133 #[.slice A xs.length c, .slice B ys.length d] w (Zu w (val xs - val ys)) := by
 have HX := hid fun (w1 : World) (h : Below w.heap.size w w1) (i : Nat) (hi : i ≤ 1099511627776) => Qr A c xs w1 (ha.below h) i hi
 have HY := hid fun (w1 : World) (h : Below w.heap.size w w1) (i : Nat) (hi : i ≤ 1099511627776) => Qr B d ys w1 (hb.below h) i hi
 have OX := hid ha.ok
 have OY := hid hb.ok
 have HLE := hid hle
 clear ha hb hle
 change Hid (∀ (w1 : World), Below w.heap.size w w1 → ∀ (i : Nat), i ≤ 1099511627776 → Calls _ _ _ w1 fun e w' => e = .returned (.int .u64 ((lb xs i : Nat) : Int)) ∧ w1 = w') at HX
 change Hid (∀ (w1 : World), Below w.heap.size w w1 → ∀ (i : Nat), i ≤ 1099511627776 → Calls _ _ _ w1 fun e w' => e = .returned (.int .u64 ((lb ys i : Nat) : Int)) ∧ w1 = w') at HY
 go_enter Tryz.func133, Tryz.ntmps133
 go_wp2
 go_loopw [5, 6, 7] (fun s5 s6 s7 wr => ∃ (k q : Nat) (v : Value) (D : List Nat), k ≤ xs.length ∧ s7 = .int .i64 k ∧ s6 = .int .u64 q ∧ q ≤ 1 ∧ s5 = v ∧ wr.ownsRow w.heap.size 124 1 v D.length (D.map lim) ∧ Below w.heap.size w wr ∧ Hid (Brw xs ys k q D)) (fun _ _ s7 _ => xs.length - (intOf s7).toNat)
 case atStart => exact ⟨0, 0, _, [], by omega, rfl, rfl, by omega, rfl, World.ownsRow_nil _ _ _ _, Below.refl _ _, Brw.start _ _⟩
 case round =>
  obtain ⟨k, q, v, D, hk, rfl, rfl, hq, rfl, hown, hbl, hc⟩ := hrel
  have hD := hc.out.len
  by_cases h0 : k < xs.length
  ·have hx := Vc OX.out k
   have hy := Vc OY.out k
   have HX1 := hid (HX.out wr hbl k (by omega))
   have HY1 := hid (HY.out wr hbl k (by omega))
   have HC := hid (fun s hs => hc.out.step (s := s) hs hx)
   clear HX HY hc
   generalize lb xs k = x at *
   generalize lb ys k = y at *
   obtain ⟨S, hS⟩ : ∃ S : Nat, S + y + q = 4294967296 + x := ⟨4294967296 + x - y - q, by omega⟩
   have HC2 := hid (HC.out S hS)
   have hS1 : (4294967296 : Int) + (x : Int) - (y : Int) - (q : Int) = (S : Int) := by omega
   have hS2 : S < 8589934592 := by omega
   obtain ⟨m, hm⟩ : ∃ m, S % 4294967296 = m := ⟨_, rfl⟩
   obtain ⟨u, hu⟩ : ∃ u, S / 4294967296 = u := ⟨_, rfl⟩
   have hm1 : (S : Int) % 4294967296 = (m : Int) := by omega
   have hu1 : (S : Int) / 4294967296 = (u : Int) := by omega
   have hm2 : m < 4294967296 := by omega
   have hu2 : u ≤ 1 := by omega
   rw [hm, hu] at HC2
   clear HC hm hu hS
   go_wp2_with fail
   refine HX1.out.mono ?_
   rintro e w1 ⟨rfl, rfl⟩
   go_wp2_with fail
   refine HY1.out.mono ?_
   rintro e w1 ⟨rfl, rfl⟩
   have hsz := hbl.size
   go_wp2_with (at_builtin; refine Je rfl (.tmp 25) (.tmp 29) 25 rfl 124 (.int .u32 0) 4 Tryz.underlying25 Qq rfl w.heap.size lim (fun _ => rfl) _ D rfl (K2 hown ((Below.refl _ _).alloc (Nat.le_refl _) (.cells #[.int .u32 (m : Int)] 124))) _ 1 [m] rfl (Za lim _ m 124) (by simp; omega) (by simp; omega) (by simp; omega) ?_; intro v5 w5 hown5 hgr hwh)
   go_roundw
   case rel => exact ⟨k + 1, 1 - u, v5, D ++ [m], by omega, by go_num, by first | (rw [hS1, hu1]; congr 1; omega) | (congr 1; omega), by omega, rfl, hown5, Jz hown hbl hgr, HC2⟩
   case measure => simp [intOf]; omega
  ·obtain rfl : k = xs.length := by omega
   have hv := hid (hc.out.last (Nat.le_refl _) hl HLE.out)
   have hok := hid hc.out.ok
   clear HX HY hc
   have hsz := hbl.size
   go_wp2_with (go_at_call 120; refine (Dk hown hbl hok.out (by omega) hv.out).mono ?_; rintro e w6 ⟨R, cc, rfl, hr1, hr2⟩)
   go_ret
   exact ⟨R, cc, rfl, hr1, hr2⟩
theorem Rtrim_fin {L : List Nat} {w wr : World} {n : Nat} {R : Ending → World → Prop} (hL : LB wr w.heap.size L) (ho : Ok L) (hl : L.length = n) (hn : n ≤ 1073741824) (v : Nat) (hv : val L = v) (hbl : Below w.heap.size w wr) (hR : ∀ e w', RetN w v e w' → R e w') :
  Calls Tryz.prog 120 #[.slice (some ⟨w.heap.size, 0, none⟩) n n] wr R := by
 subst hl; subst hv
 have hm := hL.mg ho (by omega)
 refine (Ga _ _ _ _ hm hn).mono fun e' w' h => hR _ _ ?_
 obtain ⟨A', c', h1, h2, h3⟩ := h
 exact ⟨A', c', h1, h2, hbl.trans (h3.mono hbl.size)⟩
set_option maxHeartbeats 2000000 in
theorem Rtimes_any (A B : Option Addr) (c d : Nat) (xs ys : List Nat) (w : World) (ha : Mg w A c xs) (hb : Mg w B d ys) (hs : xs.length ≤ 1048576) (ht : ys.length ≤ 1048576) :
  Calls Tryz.prog 130 #[.slice A xs.length c, .slice B ys.length d] w (RetN w (val xs * val ys)) := by
 have hmk := X4 (xs.length + ys.length) (by omega)
 rw [show ((xs.length + ys.length : Nat) : Int) = (xs.length : Int) + (ys.length : Int) from by omega] at hmk
 go_enter Tryz.func130, Tryz.ntmps130
 go_wp2
 go_loopw [6] (fun i wr => ∃ (k : Nat) (L : List Nat), k ≤ xs.length ∧ i = .int .i64 k ∧ Below w.heap.size w wr ∧ LB wr w.heap.size L ∧ Uq xs ys k L) (fun i _ => xs.length - (intOf i).toNat)
 case atStart => exact ⟨0, _, Nat.zero_le _, rfl, (Below.refl _ _).alloc (Nat.le_refl _) _, LB.made w (xs.length + ys.length), .start _ _⟩
 case round =>
  obtain ⟨k, L0, hk, rfl, hbl0, hL0, hat0⟩ := hrel
  obtain ⟨wo, rfl⟩ : ∃ wo : World, wo = wr := ⟨_, rfl⟩
  by_cases hkl : k < xs.length
  ·go_wp2
   go_loopw [7, 8] (fun cr i wr => ∃ (j q : Nat) (L : List Nat), j ≤ ys.length ∧ i = .int .i64 j ∧ cr = .int .u64 q ∧ q < 4294967296 ∧ Below w.heap.size w wr ∧ LB wr w.heap.size L ∧ Vq xs ys k j q L) (fun _ i _ => ys.length - (intOf i).toNat)
   case atStart => exact ⟨0, 0, L0, Nat.zero_le _, rfl, rfl, by omega, hbl0, hL0, hat0.inner⟩
   case round =>
    obtain ⟨j, q, L, hj, rfl, rfl, hq, hbl, hL, hat⟩ := hrel
    clear hbl0 hL0 hat0
    have hgl := hL.lt
    have hwz := hbl.size
    by_cases hjl : j < ys.length
    ·have hkL : k + j < L.length := by rw [hat.len hk hj]; omega
     have cell0 := hL.cell (k + j) hkL
     have free0 := hL.free (k + j)
     obtain ⟨ba, oa, rfl, hba, hca⟩ := ha.rd.at_ hkl
     have c1 := (hbl.cell (p := ⟨ba, oa + k, none⟩) hba).trans (hca k hkl)
     have o1 := ha.ok.get hkl
     have hba2 : ba < wr.heap.size := by omega
     obtain ⟨bb, ob, rfl, hbb, hcb⟩ := hb.rd.at_ hjl
     have c2 := (hbl.cell (p := ⟨bb, ob + j, none⟩) hbb).trans (hcb j hjl)
     have o2 := hb.ok.get hjl
     have o3 := hat.got hjl hkL
     have hbb2 : bb < wr.heap.size := by omega
     unfold lim at c1 c2
     clear hca hcb
     obtain ⟨p0, p1⟩ := Vb xs[k] ys[j] o1 o2
     have hmb := Z2 o1 o2 o3 hq
     have HS := hid (hat.step hkl hjl hkL)
     have hP : (xs[k] : Int) * (ys[j] : Int) = ((xs[k] * ys[j] : Nat) : Int) := (Int.natCast_mul _ _).symm
     generalize xs[k] * ys[j] = P at *
     obtain ⟨m, hm⟩ : ∃ m, (P + L[k + j] + q) % 4294967296 = m := ⟨_, rfl⟩
     obtain ⟨u, hu⟩ : ∃ u, (P + L[k + j] + q) / 4294967296 = u := ⟨_, rfl⟩
     have hm1 : ((P : Int) + (L[k + j] : Int) + (q : Int)) % 4294967296 = (m : Int) := by omega
     have hu1 : ((P : Int) + (L[k + j] : Int) + (q : Int)) / 4294967296 = (u : Int) := by omega
     have hm2 : m < 4294967296 := by omega
     have hu2 : u < 4294967296 := by omega
     rw [hm, hu] at HS
     clear hm hu hat
     go_wp2
     go_region
     go_wp2
     go_roundw
     case rel => exact ⟨j + 1, u, L.set (k + j) m, by omega, by go_num, by rw [hu1], hu2, (by repeat (first | exact hbl | refine Below.drew ?_ | refine Ki ?_ _ | refine Below.setCell ?_ (by exact Nat.le_refl _) _ | refine Below.alloc ?_ (by simp; omega) _)), (by repeat (first | exact hL | refine LB.drew ?_ | refine LB.drewN ?_ _ | refine LB.set_ ?_ _ _ _ rfl)), HS.out⟩
     case measure => simp [intOf]; omega
    ·obtain rfl : j = ys.length := by omega
     have hkL : k + ys.length < L.length := by rw [hat.len hk hj]; omega
     have cell0 := hL.cell (k + ys.length) hkL
     have free0 := hL.free (k + ys.length)
     go_wp2
     go_roundw
     case rel => exact ⟨k + 1, L.set (k + ys.length) q, by omega, by go_num, (by repeat (first | exact hbl | refine Below.drew ?_ | refine Ki ?_ _ | refine Below.setCell ?_ (by exact Nat.le_refl _) _ | refine Below.alloc ?_ (by simp; omega) _)), hL.set_ _ _ _ rfl, hat.done ha.ok hb.ok hq hkl⟩
     case measure => simp [intOf]; omega
  ·obtain rfl : k = xs.length := by omega
   go_wp2_with (go_at_call 120; refine Rtrim_fin hL0 (by rw [hat0.last]; exact ok_mulL _ _ _ ha.ok hb.ok (Ok.rep _)) (hat0.len (Nat.le_refl _)) (by omega) (val xs * val ys) (by rw [hat0.last, val_mulL _ _ _ (by simp), Ua, Nat.add_zero]) hbl0 ?_; rintro e w1 ⟨R, cc, rfl, hr1, hr2⟩)
   go_ret
   exact ⟨R, cc, rfl, hr1, hr2⟩
end Go.Proofs.YtdkgbkbbbldliaaGreat
/- The reference: the walk of half. Conditions: none. -/
namespace Go.Proofs.YtdkgbkbbbldliaaGreat
open Go.RowKit Big
theorem below_app1d {w wr w5 : World} {v : Value} {D : List Nat} {m : Nat} (hown : wr.ownsRow w.heap.size 124 1 v D.length (D.map lim)) (hbl : Below w.heap.size w wr)
  (hgr : ((wr.alloc (.cells #[.int .u32 (m : Int)] 124)).drew).grownBy w5 v.ownBlock) : Below w.heap.size w w5 :=
 (hbl.alloc hbl.size _).drew.trans (J3 (K2 hown ((Below.refl _ _).alloc (Nat.le_refl _) (.cells #[.int .u32 (m : Int)] 124)).drew) hgr (by have := hbl.size; simp; omega))
set_option maxRecDepth 100000 in
set_option maxHeartbeats 1000000 in
theorem Rhalf_fr (A : Option Addr) (c : Nat) (xs : List Nat) (w : World) (ha : Mg w A c xs) (hs : xs.length ≤ 1048576) :
  Calls Tryz.prog 147 #[.slice A xs.length c] w (Zu w (val xs / 2)) := by
 have HX := hid fun (w1 : World) (h : Below w.heap.size w w1) (i : Nat) (hi : i ≤ 1099511627776) => Qr A c xs w1 (ha.below h) i hi
 change Hid (∀ (w1 : World), Below w.heap.size w w1 → ∀ (i : Nat), i ≤ 1099511627776 → Calls _ _ _ w1 fun e w' => e = .returned (.int .u64 ((lb xs i : Nat) : Int)) ∧ w1 = w') at HX
 go_enter Tryz.func147, Tryz.ntmps147
 go_wp2
 go_loopw [3, 4] (fun s3 s4 wr => ∃ (k : Nat) (v : Value) (D : List Nat), k ≤ xs.length ∧ s4 = .int .i64 k ∧ s3 = v ∧ wr.ownsRow w.heap.size 124 1 v D.length (D.map lim) ∧ Below w.heap.size w wr ∧ Hid (Hlf xs k D)) (fun _ s4 _ => xs.length - (intOf s4).toNat)
 case atStart => exact ⟨0, _, [], by omega, rfl, rfl, World.ownsRow_nil _ _ _ _, Below.refl _ _, Hlf.start _⟩
 case round =>
  obtain ⟨k, v, D, hk, rfl, rfl, hown, hbl, hc⟩ := hrel
  have hD := hc.out.len
  have hsz := hbl.size
  by_cases h0 : k < xs.length
  ·obtain ⟨b, o, rfl, hB, hcc⟩ := ha.rd.at_ h0
   have c1 := (hbl.cell (p := ⟨b, o + k, none⟩) hB).trans (hcc k h0)
   have hx := ha.ok.get h0
   have HX1 := hid (fun w1 h => HX.out w1 h (k + 1) (by omega))
   have e1 : ((k + 1 : Nat) : Int) = (k : Int) + 1 := by omega
   rw [e1] at HX1
   have HC := hid (hc.out.step (Vc ha.ok k))
   rw [Va h0] at HC
   have hy := Vc ha.ok (k + 1)
   unfold lim at c1
   clear HX hc hcc
   generalize lb xs (k + 1) = y at *
   generalize xs[k] = x at *
   obtain ⟨m, hm⟩ : ∃ m, x / 2 + y % 2 * 2147483648 = m := ⟨_, rfl⟩
   have hm1 : (x : Int) / 2 + (y : Int) % 2 * 2147483648 = (m : Int) := by omega
   have hm2 : m < 4294967296 := by omega
   rw [hm] at HC
   clear hm
   have hw1 : IntKind.i64.wrap ((k : Int) + 1) = (k : Int) + 1 := by simp only [IntKind.wrap_i64]; omega
   obtain ⟨h, hh⟩ : ∃ h : Nat, (x : Int) / 2 = (h : Int) := ⟨x / 2, by omega⟩
   obtain ⟨r, hr⟩ : ∃ r : Nat, (y : Int) % 2 = (r : Int) := ⟨y % 2, by omega⟩
   rw [hh, hr] at hm1
   have hw2 : Int.tmod (y : Int) 2 = (r : Int) := by rw [Int.tmod_eq_emod_of_nonneg (by omega)]; exact hr
   have hw3 : IntKind.u32.wrap (r : Int) = (r : Int) := by simp only [IntKind.wrap_u32]; omega
   have hw4 : IntKind.u32.wrap (h : Int) = (h : Int) := by simp only [IntKind.wrap_u32]; omega
   have hw5 : IntKind.u32.wrap ((r : Int) * 2147483648) = (r : Int) * 2147483648 := by simp only [IntKind.wrap_u32]; omega
   have hw6 : IntKind.u32.wrap (m : Int) = (m : Int) := by simp only [IntKind.wrap_u32]; omega
   go_wp2
   go_region_law (first | (go_simp; go_at_call 135; (with_reducible refine (HX1.out _ (by repeat' (first | with_reducible assumption | exact Below.refl _ _ | (refine Below.alloc ?_ (by first | omega | (simp only [World.size_alloc, World.size_setCell, World.size_drew]; done) | (simp only [World.size_alloc, World.size_setCell, World.size_drew]; omega)) _) | (refine Below.drew ?_) | (refine Ki ?_ _) | (refine Below.setCell ?_ (by first | omega | (simp only [World.size_alloc, World.size_setCell, World.size_drew]; done) | (simp only [World.size_alloc, World.size_setCell, World.size_drew]; omega)) _)))).mono ?_); rintro e w1 ⟨rfl, rfl⟩) | (refine Wm rfl (.tmp 11) (.tmp 25) 25 rfl 124 (.int .u32 0) 4 Tryz.underlying25 Qq rfl w.heap.size lim (fun _ => rfl) _ D rfl (K2 hown (by repeat' (first | with_reducible assumption | exact Below.refl _ _ | (refine Below.alloc ?_ (by first | omega | (simp only [World.size_alloc, World.size_setCell, World.size_drew]; done) | (simp only [World.size_alloc, World.size_setCell, World.size_drew]; omega)) _) | (refine Below.drew ?_) | (refine Ki ?_ _) | (refine Below.setCell ?_ (by first | omega | (simp only [World.size_alloc, World.size_setCell, World.size_drew]; done) | (simp only [World.size_alloc, World.size_setCell, World.size_drew]; omega)) _)))) _ 1 [m] rfl (by exact Za lim wr m 124) (by simp; omega) (by simp; omega) (by simp; omega) ?_; intro v5 w5 hown5 hgr hwh))
   all_goals
    go_wp2
    go_roundw
    case rel => exact ⟨k + 1, v5, D ++ [m], by omega, by go_num, rfl, hown5, below_app1d hown hbl hgr, HC⟩
    case measure => simp [intOf]; omega
  ·obtain rfl : k = xs.length := by omega
   have hv := hid (hc.out.last (Nat.le_refl _))
   have hok := hid hc.out.ok
   clear HX hc
   go_wp2_with (go_at_call 120; refine (Dk hown hbl hok.out (by omega) hv.out).mono ?_; rintro e w6 ⟨R, cc, rfl, hr1, hr2⟩)
   go_ret
   exact ⟨R, cc, rfl, hr1, hr2⟩
end Go.Proofs.YtdkgbkbbbldliaaGreat
/- The reference: walks of bit, divide. Conditions: none. -/
namespace Go.Proofs.YtdkgbkbbbldliaaGreat
open Go.RowKit Big
theorem u32_bit (x t : Nat) (hx : x < 4294967296) : bits .and .u32 ((x : Int) / 2 ^ t) 1 = ((x / 2 ^ t % 2 : Nat) : Int) := by
 have e : (x : Int) / 2 ^ t = ((x / 2 ^ t : Nat) : Int) := by rw [Int.natCast_ediv]; simp
 have h := Nat.div_le_self x (2 ^ t)
 rw [e, show (1 : Int) = ((1 : Nat) : Int) from rfl, u32_and_nat _ _ (by omega) (by omega), Nat.and_one_is_mod]
set_option maxHeartbeats 1000000 in
theorem Rbit_any (A : Option Addr) (c : Nat) (xs : List Nat) (w : World) (ha : Mg w A c xs) (hs : xs.length ≤ 1048576) (i : Nat) (hi : i / 32 < xs.length) :
  Calls Tryz.prog 154 #[.slice A xs.length c, .int .i64 i] w fun e w' => e = .returned (.int .u32 ((val xs / 2 ^ i % 2 : Nat) : Int)) ∧ w = w' := by
 obtain ⟨b, o, rfl, hB, hcc⟩ := ha.rd.at_ hi
 have c1 := hcc (i / 32) hi
 have hx := ha.ok.get hi
 have HV := hid (bit_val ha.ok i hi)
 unfold lim at c1
 have hq : (i : Int) / 32 = ((i / 32 : Nat) : Int) := by omega
 have hr : (i : Int) % 32 = ((i % 32 : Nat) : Int) := by omega
 have hr2 : i % 32 < 32 := by omega
 have hi2 : i < 9223372036854775808 := by omega
 clear ha hcc
 generalize xs[i / 32] = x at *
 generalize i / 32 = j at *
 generalize i % 32 = t at *
 rw [← HV.out]
 clear HV
 have HB := hid (u32_bit x t hx)
 go_enter Tryz.func154, Tryz.ntmps154
 go_wp2
 go_ret
 exact ⟨by rw [← HB.out]; rfl, rfl⟩
theorem Xj {n m p : Nat} (hm : m < 4294967296) (hp : p < 4294967296) : (limbs (n * m + p)).length ≤ (limbs n).length + 1 := by
 rw [K1]
 have h := (K1 n _).1 (Nat.le_refl _)
 rw [Nat.pow_succ]
 generalize 4294967296 ^ (limbs n).length = Q at *
 have h1 : (n + 1) * 4294967296 ≤ Q * 4294967296 := Nat.mul_le_mul_right _ h
 have h2 : n * m ≤ n * 4294967295 := Nat.mul_le_mul_left _ (by omega)
 omega
theorem Mg.set_far {w : World} {A : Option Addr} {c : Nat} {xs : List Nat} (h : Mg w A c xs) {g : Nat} (hne : ∀ p, A = some p → p.block ≠ g) (i : Nat) (u : Value) : Mg (w.setCell ⟨g, i, none⟩ u) A c xs :=
 ⟨h.cap, h.max, h.ok, fun hl => by
  obtain ⟨b, o, e, hB, hc⟩ := h.rd hl
  refine ⟨b, o, e, by simpa using hB, fun j hj => ?_⟩
  rw [Qc (fun h1 => hne _ e h1.symm)]
  exact hc j hj⟩
set_option maxHeartbeats 2000000 in
theorem Rdivide_n (A B : Option Addr) (c d n m : Nat) (w : World) (ha : Mg w A c (limbs n)) (hb : Mg w B d (limbs m)) (hs : (limbs n).length ≤ 4096) (ht : (limbs m).length ≤ 4096) (hm : m ≠ 0) :
  Calls Tryz.prog 134 #[.slice A (limbs n).length c, .slice B (limbs m).length d] w (Vr w (n / m) (n % m)) := by
 have HP := hid fun (w1 : World) (R : Option Addr) (cc r : Nat) (h : Mg w1 R cc (limbs r)) (hl : (limbs r).length ≤ 8192) => (show Calls Tryz.prog 131 #[.slice R (limbs r).length cc, .slice R (limbs r).length cc] w1 (Zu w1 (r + r)) by
  have := Hw R R cc cc _ _ w1 h h (by omega) (by omega)
  rwa [Kl] at this)
 have HP1 := hid fun (w1 : World) (R Q : Option Addr) (cc r : Nat) (h : Mg w1 R cc (limbs r)) (h1 : Mg w1 Q 1 [1]) (hl : (limbs r).length ≤ 8192) => (show Calls Tryz.prog 131 #[.slice R (limbs r).length cc, .slice Q 1 1] w1 (Zu w1 (r + 1)) by
  have := Hw R Q cc 1 _ _ w1 h h1 (by omega) (by simp)
  rwa [Kl] at this)
 have HO := hid fun (w1 : World) (hw : Below w.heap.size w w1) (R : Option Addr) (cc r : Nat) (h : Mg w1 R cc (limbs r)) (hl : (limbs r).length ≤ 8192) => (show Calls Tryz.prog 132 #[.slice R (limbs r).length cc, .slice B (limbs m).length d] w1 fun e w' => e = .returned (.int .i64 (ord r m)) ∧ w1 = w' by
  have := Hj R B cc d _ _ w1 h (hb.below hw) (by omega) (by omega)
  rwa [Kl, Kl] at this)
 have HM := hid fun (w1 : World) (hw : Below w.heap.size w w1) (R : Option Addr) (cc r : Nat) (h : Mg w1 R cc (limbs r)) (hl : (limbs r).length ≤ 8192) (hle : m ≤ r) => (show Calls Tryz.prog 133 #[.slice R (limbs r).length cc, .slice B (limbs m).length d] w1 (Zu w1 (r - m)) by
  have := Rminus_fr R B cc d _ _ w1 h (hb.below hw) (by omega) (Kv hle) (by rw [Kl, Kl]; exact hle)
  rwa [Kl, Kl] at this)
 have HBt := hid fun (w1 : World) (hw : Below w.heap.size w w1) (i : Nat) (hi : i / 32 < (limbs n).length) => (show Calls Tryz.prog 154 #[.slice A (limbs n).length c, .int .i64 i] w1 fun e w' => e = .returned (.int .u32 ((n / 2 ^ i % 2 : Nat) : Int)) ∧ w1 = w' by
  have := Rbit_any A c _ w1 (ha.below hw) (by omega) i hi
  rwa [Kl] at this)
 have OX := hid ha.ok
 have VX := hid (Kl n)
 have hcapA := ha.cap
 have hmaxA := ha.max
 have hcapB := hb.cap
 have hmaxB := hb.max
 clear ha hb
 generalize limbs n = xs at *
 have hm0 : 0 < m := by omega
 have hmk := X4 xs.length (by omega)
 go_enter Tryz.func134, Tryz.ntmps134
 go_wp2
 go_loopw [7, 8] (fun s7 s8 wr => ∃ (j r : Nat) (L : List Nat) (R : Option Addr) (cc : Nat), j ≤ 32 * xs.length ∧ s8 = .int .i64 ((j : Int) - 1) ∧ s7 = .slice R (limbs r).length cc ∧ Mg wr R cc (limbs r) ∧ Below w.heap.size w wr ∧ LB wr w.heap.size L ∧ Hid (Lng xs m j r L)) (fun _ s8 _ => (intOf s8 + 1).toNat)
 case atStart => exact ⟨32 * xs.length, 0, _, none, 0, Nat.le_refl _, by first | rfl | (congr 1; omega), by simp [Ko], Yi _, (Below.refl _ _).alloc (Nat.le_refl _) _, LB.made w xs.length, Lng.start OX.out m⟩
 case round =>
  obtain ⟨k, r, L, R, cc, hk, rfl, rfl, hr, hbl, hL, hg⟩ := hrel
  have hgl := hL.lt
  have hwz := hbl.size
  have hrm := hg.out.rlt hm0
  have hrl : (limbs r).length ≤ 4096 := Nat.le_trans (Kv (Nat.le_of_lt hrm)) ht
  by_cases h0 : 0 < k
  ·obtain ⟨j, rfl⟩ : ∃ j, k = j + 1 := ⟨k - 1, by omega⟩
   have e1 : ((j + 1 : Nat) : Int) - 1 = (j : Int) := by omega
   rw [e1]
   have hjl : j / 32 < xs.length := by omega
   have hkL : j / 32 < L.length := by rw [hg.out.len]; exact hjl
   have hfit := hg.out.fit hkL
   have HBj := hid (fun w1 hw => HBt.out w1 hw j hjl)
   have hNo := hid (fun (b : Nat) (hb : n / 2 ^ j % 2 = b) (hlt : 2 * r + b < m) => (show Lng xs m j (2 * r + b) L by subst hb; rw [← VX.out] at hlt ⊢; exact hg.out.no hlt))
   have hYes := hid (fun (b : Nat) (hb : n / 2 ^ j % 2 = b) (hlt : m ≤ 2 * r + b) => (show Lng xs m j (2 * r + b - m) (L.set (j / 32) (L[j / 32] + 2 ^ (j % 32))) by subst hb; rw [← VX.out] at hlt ⊢; exact hg.out.yes hrm hlt hkL))
   have hr2l : (limbs (r + r)).length ≤ 8192 := Nat.le_trans (by have := Xj (n := r) (m := 2) (p := 0) (by omega) (by omega); rwa [show r * 2 + 0 = r + r by omega] at this) (show (limbs r).length + 1 ≤ 8192 by omega)
   have hr3l : (limbs (r + r + 1)).length ≤ 8192 := Nat.le_trans (by have := Xj (n := r) (m := 2) (p := 1) (by omega) (by omega); rwa [show r * 2 + 1 = r + r + 1 by omega] at this) (show (limbs r).length + 1 ≤ 8192 by omega)
   have hqj : (j : Int) / 32 = ((j / 32 : Nat) : Int) := by omega
   have hrj : (j : Int) % 32 = ((j % 32 : Nat) : Int) := by omega
   clear HBt hg
   have htt : j % 32 < 32 := by omega
   have hfit2 : ((L[j / 32] : Nat) : Int) + 2 ^ (j % 32) < 4294967296 := (by have h2 : ((2 ^ (j % 32) : Nat) : Int) = 2 ^ (j % 32) := (by simp); rw [← h2]; omega)
   have HE := hid (show ((L[j / 32] : Nat) : Int) + 2 ^ (j % 32) = ((L[j / 32] + 2 ^ (j % 32) : Nat) : Int) by simp)
   have HE := hid (show (((L[j / 32] : Nat) : Int) + 2 ^ (j % 32)) % 4294967296 = ((L[j / 32] + 2 ^ (j % 32) : Nat) : Int) by rw [HE.out]; exact Int.emod_eq_of_lt (Int.natCast_nonneg _) (Int.ofNat_lt.2 hfit))
   generalize j / 32 = J at *
   generalize j % 32 = t at *
   rcases Nat.mod_two_eq_zero_or_one (n / 2 ^ j) with hb | hb
   ·rw [hb] at HBj
    by_cases hlt : r + r < m
    ·have HN := hid (hNo.out 0 hb (by omega))
     rw [show 2 * r + 0 = r + r by omega] at HN
     have HO1 := hid (fun w1 hw R cc => HO.out w1 hw R cc (r + r))
     clear HO HM hYes hNo hb
     go_wp2_with fail
     refine (HP.out _ _ _ _ hr (by omega)).mono ?_
     rintro e w1 ⟨R1, c1, rfl, hr1, h1, hf1⟩
     have hb1 := hbl.trans (h1.mono hwz)
     have hL1 := hL.below h1 hgl
     go_wp2_with fail
     refine (HBj.out _ hb1).mono ?_
     rintro e w2 ⟨rfl, rfl⟩
     rw [Xo hlt] at HO1
     go_wp2_with fail
     refine (HO1.out _ hb1 _ _ hr1 (by omega)).mono ?_
     rintro e w4 ⟨rfl, rfl⟩
     go_wp2_with fail
     go_roundw
     case rel => exact ⟨j, _, L, R1, c1, by omega, by first | rfl | go_num, rfl, hr1, hb1, hL1, HN.out⟩
     case measure => simp [intOf] <;> omega
    ·have HN := hid (hYes.out 0 hb (by omega))
     rw [show 2 * r + 0 = r + r by omega] at HN
     have HO1 := hid (fun w1 hw R cc => HO.out w1 hw R cc (r + r))
     have hlt : m ≤ r + r := by omega
     clear HO hYes hNo hb
     go_wp2_with fail
     refine (HP.out _ _ _ _ hr (by omega)).mono ?_
     rintro e w1 ⟨R1, c1, rfl, hr1, h1, hf1⟩
     have hb1 := hbl.trans (h1.mono hwz)
     have hL1 := hL.below h1 hgl
     go_wp2_with fail
     refine (HBj.out _ hb1).mono ?_
     rintro e w2 ⟨rfl, rfl⟩
     have ho : 0 ≤ ord (r + r) m := by unfold ord; rw [if_neg (by omega)]; split <;> omega
     generalize ord (r + r) m = ov at *
     go_wp2_with fail
     refine (HO1.out _ hb1 _ _ hr1 (by omega)).mono ?_
     rintro e w4 ⟨rfl, rfl⟩
     go_wp2_with fail
     refine (HM.out _ hb1 _ _ _ hr1 (by omega) hlt).mono ?_
     rintro e w5 ⟨R5, c5, rfl, hr5, h5, hf5⟩
     have hb5 := (hb1).trans (h5.mono (hb1).size)
     have hL5 := (hL1).below h5 (hL1).lt
     have cell0 := hL5.cell J hkL
     have free0 := hL5.free J
     have hz5 := hb5.size
     have hgl5 := hL5.lt
     have hzz := (hL1).lt
     go_wp2_with fail
     go_roundw
     case rel => exact ⟨j, _, L.set J (L[J] + 2 ^ t), R5, c5, by omega, by first | rfl | go_num, rfl, hr5.set_far (fun p hp => by have := hf5.out p hp; omega) _ _, Kg hb5 (Nat.le_refl _) _ _, hL5.set_ _ _ _ HE.out, HN.out⟩
     case measure => simp [intOf] <;> omega
   ·rw [hb] at HBj
    by_cases hlt : r + r + 1 < m
    ·have HN := hid (hNo.out 1 hb (by omega))
     rw [show 2 * r + 1 = r + r + 1 by omega] at HN
     have HO1 := hid (fun w1 hw R cc => HO.out w1 hw R cc (r + r + 1))
     clear HO HM hYes hNo hb
     go_wp2_with fail
     refine (HP.out _ _ _ _ hr (by omega)).mono ?_
     rintro e w1 ⟨R1, c1, rfl, hr1, h1, hf1⟩
     have hb1 := hbl.trans (h1.mono hwz)
     have hL1 := hL.below h1 hgl
     go_wp2_with fail
     refine (HBj.out _ hb1).mono ?_
     rintro e w2 ⟨rfl, rfl⟩
     go_wp2_with fail
     refine (HP1.out _ _ _ _ _ hr1.alloc (mg_one _) (by omega)).mono ?_
     rintro e w3 ⟨R2, c2, rfl, hr2, h2, hf2⟩
     have hb2 : Below w.heap.size w w3 := (hb1.alloc hb1.size _).trans (h2.mono (by have := hb1.size; simp; omega))
     have hgl1 := hL1.lt
     have hL2 := (hL1.alloc (.cells #[.int .u32 1] 124)).below h2 (by simp; omega)
     rw [Xo hlt] at HO1
     go_wp2_with fail
     refine (HO1.out _ hb2 _ _ hr2 (by omega)).mono ?_
     rintro e w4 ⟨rfl, rfl⟩
     go_wp2_with fail
     go_roundw
     case rel => exact ⟨j, _, L, R2, c2, by omega, by first | rfl | go_num, rfl, hr2, hb2, hL2, HN.out⟩
     case measure => simp [intOf] <;> omega
    ·have HN := hid (hYes.out 1 hb (by omega))
     rw [show 2 * r + 1 = r + r + 1 by omega] at HN
     have HO1 := hid (fun w1 hw R cc => HO.out w1 hw R cc (r + r + 1))
     have hlt : m ≤ r + r + 1 := by omega
     clear HO hYes hNo hb
     go_wp2_with fail
     refine (HP.out _ _ _ _ hr (by omega)).mono ?_
     rintro e w1 ⟨R1, c1, rfl, hr1, h1, hf1⟩
     have hb1 := hbl.trans (h1.mono hwz)
     have hL1 := hL.below h1 hgl
     go_wp2_with fail
     refine (HBj.out _ hb1).mono ?_
     rintro e w2 ⟨rfl, rfl⟩
     go_wp2_with fail
     refine (HP1.out _ _ _ _ _ hr1.alloc (mg_one _) (by omega)).mono ?_
     rintro e w3 ⟨R2, c2, rfl, hr2, h2, hf2⟩
     have hb2 : Below w.heap.size w w3 := (hb1.alloc hb1.size _).trans (h2.mono (by have := hb1.size; simp; omega))
     have hgl1 := hL1.lt
     have hL2 := (hL1.alloc (.cells #[.int .u32 1] 124)).below h2 (by simp; omega)
     have ho : 0 ≤ ord (r + r + 1) m := by unfold ord; rw [if_neg (by omega)]; split <;> omega
     generalize ord (r + r + 1) m = ov at *
     go_wp2_with fail
     refine (HO1.out _ hb2 _ _ hr2 (by omega)).mono ?_
     rintro e w4 ⟨rfl, rfl⟩
     go_wp2_with fail
     refine (HM.out _ hb2 _ _ _ hr2 (by omega) hlt).mono ?_
     rintro e w5 ⟨R5, c5, rfl, hr5, h5, hf5⟩
     have hb5 := (hb2).trans (h5.mono (hb2).size)
     have hL5 := (hL2).below h5 (hL2).lt
     have cell0 := hL5.cell J hkL
     have free0 := hL5.free J
     have hz5 := hb5.size
     have hgl5 := hL5.lt
     have hzz := (hL2).lt
     go_wp2_with fail
     go_roundw
     case rel => exact ⟨j, _, L.set J (L[J] + 2 ^ t), R5, c5, by omega, by first | rfl | go_num, rfl, hr5.set_far (fun p hp => by have := hf5.out p hp; omega) _ _, Kg hb5 (Nat.le_refl _) _ _, hL5.set_ _ _ _ HE.out, HN.out⟩
     case measure => simp [intOf] <;> omega
  ·obtain rfl : k = 0 := by omega
   obtain ⟨hv1, hv2⟩ := hg.out.last
   rw [VX.out] at hv1 hv2
   subst hv1
   have HV := hid hv2
   have HG := hid hg.out.ok
   have HLn := hid hg.out.len
   clear hv2 hg
   have hll := HLn.out
   have HT := Ga _ _ _ _ (hL.mg HG.out (by omega)) (by omega)
   rw [hll, HV.out] at HT
   have HT := hid HT
   go_wp2_with (go_at_call 120; refine HT.out.mono ?_; rintro e w1 ⟨R1, c1, rfl, hr1, h1⟩)
   go_ret2
   exact ⟨_, _, _, _, rfl, hr1, hr.below h1, hbl.trans (h1.mono hwz)⟩
section
variable (A B : Option Addr) (c d n m : Nat) (w : World) (ha : Mg w A c (limbs n)) (hb : Mg w B d (limbs m)) (hs : (limbs n).length ≤ 1048576) (ht : (limbs m).length ≤ 1048576)
include ha hs
theorem Zg (neg : Bool) : Calls Tryz.prog 88 #[.bool neg, .slice A (limbs n).length c] w (RetZ w (sg neg n)) := by
 have _h := hs
 have := Zq neg A c _ w ha (by omega); rwa [Kl] at this
theorem Vu (neg : Bool) : Calls Tryz.prog 129 #[.bool neg, .slice A (limbs n).length c] w (RetF w (sg neg n)) := by
 have _h := hs
 have := Rlimit_any neg A c _ w ha (by omega); rwa [Kl] at this
theorem Rhalf_n : Calls Tryz.prog 147 #[.slice A (limbs n).length c] w (RetN w (n / 2)) := by
 have _h := hs
 have := Rhalf_fr A c _ w ha (by omega); rw [Kl] at this; exact this.mono fun _ _ h => h.any
include hb ht
theorem Rorder_n : Calls Tryz.prog 132 #[.slice A (limbs n).length c, .slice B (limbs m).length d] w (RetI w (ord n m)) := by
 have _h := hs
 have _h := ht
 have := Hj A B c d _ _ w ha hb (by omega) (by omega); rw [Kl, Kl] at this; exact this.mono fun e w' ⟨h1, h2⟩ => ⟨h1, by rw [h2]; exact Below.refl _ _⟩
theorem Rplus_n : Calls Tryz.prog 131 #[.slice A (limbs n).length c, .slice B (limbs m).length d] w (RetN w (n + m)) := by
 have := Hw A B c d _ _ w ha hb hs ht; rw [Kl, Kl] at this; exact this.mono fun _ _ h => h.any
theorem Rtimes_n : Calls Tryz.prog 130 #[.slice A (limbs n).length c, .slice B (limbs m).length d] w (RetN w (n * m)) := by
 have := Rtimes_any A B c d _ _ w ha hb hs ht; rwa [Kl, Kl] at this
theorem V3 (hle : m ≤ n) : Calls Tryz.prog 133 #[.slice A (limbs n).length c, .slice B (limbs m).length d] w (RetN w (n - m)) := by
 have _h := ht
 have := Rminus_fr A B c d _ _ w ha hb hs (Kv hle) (by rw [Kl, Kl]; exact hle); rw [Kl, Kl] at this; exact this.mono fun _ _ h => h.any
end
set_option maxHeartbeats 1000000 in
theorem RNeg_ok (x : Int) (A : Option Addr) (c : Nat) (w : World) (ha : Mg w A c (limbs x.natAbs)) (fx : fits x) :
  Calls Tryz.prog 146 #[.agg #[.bool (decide ((x) < 0)), .slice A (limbs (Int.natAbs (x))).length c]] w (RetZ w (-x)) := by
 have HX := hid fun (w1 : World) (h1 : Below w.heap.size w w1) => Qu (ha.below h1) fx
 have HI := hid fun (w1 : World) (h1 : Below w.heap.size w w1) => by
  have h2 := Zg A c x.natAbs w1 (ha.below h1) (Nat.le_trans fx (by omega)) (!decide (x < 0))
  rw [sg_not] at h2
  exact h2
 clear ha fx
 generalize decide (x < 0) = bx at *
 generalize (limbs x.natAbs).length = lx at *
 go_enter Tryz.func146, Tryz.ntmps146
 go_wp2_with fail
 refine (HX.out _ BL).mono ?_
 rintro e w1 ⟨rfl, h1⟩
 obtain ⟨p1, p2, p3, p4, p5⟩ := Jl h1
 have b1 : Below w.heap.size w w1 := Below.trans (b := _) BL (h1.mono (by simp; omega))
 go_wp2_with fail
 refine (HI.out _ b1).mono ?_
 rintro e w2 ⟨R, cc, rfl, hr, h2⟩
 have h12 := h1.trans (h2.mono h1.size)
 obtain ⟨q1, q2, q3, q4, q5⟩ := Jl h12
 have b2 := b1.trans (h2.mono b1.size)
 have k0 := q3 0
 have k1 := q3 1
 simp at k0 k1
 go_wp2
 refine bodyPost_ret (v := .agg #[.bool (decide ((-x) < 0)), .slice R (limbs (Int.natAbs (-x))).length cc]) ?_ rfl ?_
 ·simp [results, Tryz.results146, go_sem, k0, k1]
 ·exact fin_z hr b2 (by omega) k0 k1 _ _
set_option maxHeartbeats 1000000 in
theorem RMul_ok (x y : Int) (A B : Option Addr) (c d : Nat) (w : World) (ha : Mg w A c (limbs x.natAbs)) (hb : Mg w B d (limbs y.natAbs)) (fx : fits x) (fy : fits y) :
  Calls Tryz.prog 101 #[.agg #[.bool (decide ((x) < 0)), .slice A (limbs (Int.natAbs (x))).length c], .agg #[.bool (decide ((y) < 0)), .slice B (limbs (Int.natAbs (y))).length d]] w (RetF w (x * y)) := by
 have HX := hid fun (w1 : World) (h : Below w.heap.size w w1) => Qu (ha.below h) fx
 have HY := hid fun (w1 : World) (h : Below w.heap.size w w1) => Qu (hb.below h) fy
 have HM := hid fun (w1 : World) (h : Below w.heap.size w w1) => Rtimes_n A B c d x.natAbs y.natAbs w1 (ha.below h) (hb.below h) (Nat.le_trans fx (by omega)) (Nat.le_trans fy (by omega))
 have HS := hid fun (w1 : World) (A1 : Option Addr) (c1 : Nat) (h : Mg w1 A1 c1 (limbs (x.natAbs * y.natAbs))) => Vu A1 c1 _ w1 h (Nat.le_trans (Dp fx fy) (by omega)) (decide (x < 0) != decide (y < 0))
 rw [sg_mul] at HS
 clear ha hb fx fy
 generalize hbx : decide (x < 0) = bx at *
 generalize hby : decide (y < 0) = by_ at *
 generalize hlx : (limbs x.natAbs).length = lx at *
 generalize hly : (limbs y.natAbs).length = ly at *
 have HH := hid (And.intro hbx (And.intro hby (And.intro hlx hly)))
 clear hbx hby hlx hly
 go_enter Tryz.func101, Tryz.ntmps101
 go_wp2_with fail
 refine (HX.out _ BL).mono ?_
 rintro e w1 ⟨rfl, h1⟩
 obtain ⟨p1, p2, p3, p4, p5, p6, p7⟩ := Kr h1
 have b1 : Below w.heap.size w w1 := Below.trans (b := _) BL (h1.mono (by simp; omega))
 go_wp2_with fail
 refine (HY.out _ b1).mono ?_
 rintro e w2 ⟨rfl, h2⟩
 have h12 := h1.trans (h2.mono h1.size)
 obtain ⟨q1, q2, q3, q4, q5, q6, q7⟩ := Kr h12
 have b2 := b1.trans (h2.mono b1.size)
 go_wp2_with fail
 have b2d := b2.drew
 have h12d := h12.drew
 go_region_held3 (fun w' => w'.cell? ⟨w.heap.size, 0, none⟩ = some (.bool bx) ∧ w'.cell? ⟨w.heap.size, 1, none⟩ = some (.slice A lx c) ∧ w'.cell? ⟨w.heap.size + 1, 0, none⟩ = some (.bool by_) ∧ w'.cell? ⟨w.heap.size + 1, 1, none⟩ = some (.slice B ly d)) (first | exact ⟨(q1 0).trans rfl, (q1 1).trans rfl, (q3 0).trans rfl, (q3 1).trans rfl⟩ | exact ⟨(u1 0).trans rfl, (u1 1).trans rfl, (u3 0).trans rfl, (u3 1).trans rfl⟩ | exact ⟨(r1 0).trans rfl, (r1 1).trans rfl, (r3 0).trans rfl, (r3 1).trans rfl⟩ | (refine ⟨?_, ?_, ?_, ?_⟩ <;> (repeat rw [Qc (by omega)]) <;> first | exact (r1 0).trans rfl | exact (r1 1).trans rfl | exact (r3 0).trans rfl | exact (r3 1).trans rfl)) (first | (go_at_call 130; refine (HM.out _ b2d).mono ?_; rintro e w3' ⟨R', cc', rfl, hr', h3'⟩; have h13' := h12d.trans (h3'.mono h12d.size); obtain ⟨u1, u2, u3, u4, u5, u6, u7⟩ := Kr h13') | (go_at_call 129; refine (HS.out _ _ _ hr').mono ?_; rintro e w3 ⟨R, cc, rfl, hr, h3''⟩; have h3 := h3'.trans (h3''.mono h3'.size); have h13 := h12d.trans (h3.mono h12d.size); obtain ⟨r1, r2, r3, r4, r5, r6, r7⟩ := Kr h13))
 have b3 := b2d.trans (h3.mono b2d.size)
 have k0 := r5 0
 have k1 := r5 1
 simp at k0 k1
 go_wp2
 refine bodyPost_ret (v := .tuple #[.agg #[.bool (decide (((fitE (x * y)).1) < 0)), .slice R (limbs (Int.natAbs ((fitE (x * y)).1))).length cc], .int .i64 (fitE (x * y)).2]) ?_ rfl ?_
 ·simp [results, Tryz.results101, go_sem, k0, k1]
 ·exact Xa hr b3 (by omega) k0 k1 _ _
set_option maxHeartbeats 1000000 in
theorem RAdd_ok (x y : Int) (A B : Option Addr) (c d : Nat) (w : World) (ha : Mg w A c (limbs x.natAbs)) (hb : Mg w B d (limbs y.natAbs)) (fx : fits x) (fy : fits y) :
  Calls Tryz.prog 102 #[.agg #[.bool (decide ((x) < 0)), .slice A (limbs (Int.natAbs (x))).length c], .agg #[.bool (decide ((y) < 0)), .slice B (limbs (Int.natAbs (y))).length d]] w (RetF w (x + y)) := by
 have HX := hid fun (w1 : World) (h : Below w.heap.size w w1) => Qu (ha.below h) fx
 have HY := hid fun (w1 : World) (h : Below w.heap.size w w1) => Qu (hb.below h) fy
 have l1 : (limbs x.natAbs).length ≤ 1048576 := Nat.le_trans fx (by omega)
 have l2 : (limbs y.natAbs).length ≤ 1048576 := Nat.le_trans fy (by omega)
 by_cases hs : decide (x < 0) = decide (y < 0)
 ·have HM := hid fun (w1 : World) (h : Below w.heap.size w w1) => Rplus_n A B c d x.natAbs y.natAbs w1 (ha.below h) (hb.below h) l1 l2
  have hz : sg (decide (x < 0)) (x.natAbs + y.natAbs) = x + y := by rw [← sg_same, Qa, hs, Qa]
  have hl : (limbs (x.natAbs + y.natAbs)).length ≤ 1048576 := by
   refine Nat.le_trans (Kv (show x.natAbs + y.natAbs ≤ (x.natAbs + y.natAbs) * 1 + 0 by omega)) ?_
   rcases Nat.le_total x.natAbs y.natAbs with h | h
   ·refine Nat.le_trans (Kv (show (x.natAbs + y.natAbs) * 1 + 0 ≤ y.natAbs * 2 + 0 by omega)) (Nat.le_trans (Xj (by omega) (by omega)) ?_)
    have : (limbs y.natAbs).length ≤ 512 := fy
    omega
   ·refine Nat.le_trans (Kv (show (x.natAbs + y.natAbs) * 1 + 0 ≤ x.natAbs * 2 + 0 by omega)) (Nat.le_trans (Xj (by omega) (by omega)) ?_)
    have : (limbs x.natAbs).length ≤ 512 := fx
    omega
  have HS := hid fun (w1 : World) (A1 : Option Addr) (c1 : Nat) (h : Mg w1 A1 c1 (limbs (x.natAbs + y.natAbs))) => Vu A1 c1 _ w1 h hl (decide (x < 0))
  rw [hz] at HS
  have hs2 : (decide (x < 0) == decide (y < 0)) = true := by simpa using hs
  clear hs hz l1 l2 hl
  clear ha hb fx fy
  generalize hbx : decide (x < 0) = bx at *
  generalize hby : decide (y < 0) = by_ at *
  generalize hlx : (limbs x.natAbs).length = lx at *
  generalize hly : (limbs y.natAbs).length = ly at *
  have HH := hid (And.intro hbx (And.intro hby (And.intro hlx hly)))
  clear hbx hby hlx hly
  go_enter Tryz.func102, Tryz.ntmps102
  go_wp2_with fail
  refine (HX.out _ BL).mono ?_
  rintro e w1 ⟨rfl, h1⟩
  obtain ⟨p1, p2, p3, p4, p5, p6, p7⟩ := Kr h1
  have b1 : Below w.heap.size w w1 := Below.trans (b := _) BL (h1.mono (by simp; omega))
  go_wp2_with fail
  refine (HY.out _ b1).mono ?_
  rintro e w2 ⟨rfl, h2⟩
  have h12 := h1.trans (h2.mono h1.size)
  obtain ⟨q1, q2, q3, q4, q5, q6, q7⟩ := Kr h12
  have b2 := b1.trans (h2.mono b1.size)
  go_wp2_with fail
  have b2d := b2.drew
  have h12d := h12.drew
  go_region_held3 (fun w' => w'.cell? ⟨w.heap.size, 0, none⟩ = some (.bool bx) ∧ w'.cell? ⟨w.heap.size, 1, none⟩ = some (.slice A lx c) ∧ w'.cell? ⟨w.heap.size + 1, 0, none⟩ = some (.bool by_) ∧ w'.cell? ⟨w.heap.size + 1, 1, none⟩ = some (.slice B ly d)) (first | exact ⟨(q1 0).trans rfl, (q1 1).trans rfl, (q3 0).trans rfl, (q3 1).trans rfl⟩ | exact ⟨(u1 0).trans rfl, (u1 1).trans rfl, (u3 0).trans rfl, (u3 1).trans rfl⟩ | exact ⟨(r1 0).trans rfl, (r1 1).trans rfl, (r3 0).trans rfl, (r3 1).trans rfl⟩ | (refine ⟨?_, ?_, ?_, ?_⟩ <;> (repeat rw [Qc (by omega)]) <;> first | exact (r1 0).trans rfl | exact (r1 1).trans rfl | exact (r3 0).trans rfl | exact (r3 1).trans rfl)) (first | (go_at_call 131; refine (HM.out _ b2d).mono ?_; rintro e w3' ⟨R', cc', rfl, hr', h3'⟩; have h13' := h12d.trans (h3'.mono h12d.size); obtain ⟨u1, u2, u3, u4, u5, u6, u7⟩ := Kr h13') | (go_at_call 129; refine (HS.out _ _ _ hr').mono ?_; rintro e w3 ⟨R, cc, rfl, hr, h3''⟩; have h3 := h3'.trans (h3''.mono h3'.size); have h13 := h12d.trans (h3.mono h12d.size); obtain ⟨r1, r2, r3, r4, r5, r6, r7⟩ := Kr h13))
  have b3 := b2d.trans (h3.mono b2d.size)
  have k0 := r5 0
  have k1 := r5 1
  simp at k0 k1
  go_wp2
  refine bodyPost_ret (v := .tuple #[.agg #[.bool (decide (((fitE (x + y)).1) < 0)), .slice R (limbs (Int.natAbs ((fitE (x + y)).1))).length cc], .int .i64 (fitE (x + y)).2]) ?_ rfl ?_
  ·simp [results, Tryz.results102, go_sem, k0, k1]
  ·exact Xa hr b3 (by omega) k0 k1 _ _
 ·have hs2 : (decide (x < 0) == decide (y < 0)) = false := by simpa using hs
  have HO := hid fun (w1 : World) (h : Below w.heap.size w w1) => Rorder_n A B c d x.natAbs y.natAbs w1 (ha.below h) (hb.below h) l1 l2
  by_cases hl : x.natAbs < y.natAbs
  ·have HM := hid fun (w1 : World) (h : Below w.heap.size w w1) => V3 B A d c y.natAbs x.natAbs w1 (hb.below h) (ha.below h) l2 l1 (by omega)
   have hz := sg_lt _ _ _ _ hs hl
   rw [Qa, Qa] at hz
   have HS := hid fun (w1 : World) (A1 : Option Addr) (c1 : Nat) (h : Mg w1 A1 c1 (limbs (y.natAbs - x.natAbs))) => Vu A1 c1 _ w1 h (Nat.le_trans (Kv (by omega)) l2) (decide (y < 0))
   rw [← hz] at HS
   rw [Xo hl] at HO
   clear hs hz l1 l2 hl
   clear ha hb fx fy
   generalize hbx : decide (x < 0) = bx at *
   generalize hby : decide (y < 0) = by_ at *
   generalize hlx : (limbs x.natAbs).length = lx at *
   generalize hly : (limbs y.natAbs).length = ly at *
   have HH := hid (And.intro hbx (And.intro hby (And.intro hlx hly)))
   clear hbx hby hlx hly
   go_enter Tryz.func102, Tryz.ntmps102
   go_wp2_with fail
   refine (HX.out _ BL).mono ?_
   rintro e w1 ⟨rfl, h1⟩
   obtain ⟨p1, p2, p3, p4, p5, p6, p7⟩ := Kr h1
   have b1 : Below w.heap.size w w1 := Below.trans (b := _) BL (h1.mono (by simp; omega))
   go_wp2_with fail
   refine (HY.out _ b1).mono ?_
   rintro e w2 ⟨rfl, h2⟩
   have h12 := h1.trans (h2.mono h1.size)
   obtain ⟨q1, q2, q3, q4, q5, q6, q7⟩ := Kr h12
   have b2 := b1.trans (h2.mono b1.size)
   go_wp2_with fail
   refine (HO.out _ b2).mono ?_
   rintro e w2o ⟨rfl, h2o⟩
   have h12 := h12.trans (h2o.mono h12.size)
   obtain ⟨q1, q2, q3, q4, q5, q6, q7⟩ := Kr h12
   have b2 := b2.trans (h2o.mono b2.size)
   go_wp2_with fail
   have b2d := b2.drew
   have h12d := h12.drew
   go_region_held3 (fun w' => w'.cell? ⟨w.heap.size, 0, none⟩ = some (.bool bx) ∧ w'.cell? ⟨w.heap.size, 1, none⟩ = some (.slice A lx c) ∧ w'.cell? ⟨w.heap.size + 1, 0, none⟩ = some (.bool by_) ∧ w'.cell? ⟨w.heap.size + 1, 1, none⟩ = some (.slice B ly d)) (first | exact ⟨(q1 0).trans rfl, (q1 1).trans rfl, (q3 0).trans rfl, (q3 1).trans rfl⟩ | exact ⟨(u1 0).trans rfl, (u1 1).trans rfl, (u3 0).trans rfl, (u3 1).trans rfl⟩ | exact ⟨(r1 0).trans rfl, (r1 1).trans rfl, (r3 0).trans rfl, (r3 1).trans rfl⟩ | (refine ⟨?_, ?_, ?_, ?_⟩ <;> (repeat rw [Qc (by omega)]) <;> first | exact (r1 0).trans rfl | exact (r1 1).trans rfl | exact (r3 0).trans rfl | exact (r3 1).trans rfl)) (first | (go_at_call 133; refine (HM.out _ b2d).mono ?_; rintro e w3' ⟨R', cc', rfl, hr', h3'⟩; have h13' := h12d.trans (h3'.mono h12d.size); obtain ⟨u1, u2, u3, u4, u5, u6, u7⟩ := Kr h13') | (go_at_call 129; refine (HS.out _ _ _ hr').mono ?_; rintro e w3 ⟨R, cc, rfl, hr, h3''⟩; have h3 := h3'.trans (h3''.mono h3'.size); have h13 := h12d.trans (h3.mono h12d.size); obtain ⟨r1, r2, r3, r4, r5, r6, r7⟩ := Kr h13))
   have b3 := b2d.trans (h3.mono b2d.size)
   have k0 := r5 0
   have k1 := r5 1
   simp at k0 k1
   go_wp2
   refine bodyPost_ret (v := .tuple #[.agg #[.bool (decide (((fitE (x + y)).1) < 0)), .slice R (limbs (Int.natAbs ((fitE (x + y)).1))).length cc], .int .i64 (fitE (x + y)).2]) ?_ rfl ?_
   ·simp [results, Tryz.results102, go_sem, k0, k1]
   ·exact Xa hr b3 (by omega) k0 k1 _ _
  ·have HM := hid fun (w1 : World) (h : Below w.heap.size w w1) => V3 A B c d x.natAbs y.natAbs w1 (ha.below h) (hb.below h) l1 l2 (by omega)
   have hz := sg_ge _ _ _ _ hs (show y.natAbs ≤ x.natAbs by omega)
   rw [Qa, Qa] at hz
   have HS := hid fun (w1 : World) (A1 : Option Addr) (c1 : Nat) (h : Mg w1 A1 c1 (limbs (x.natAbs - y.natAbs))) => Vu A1 c1 _ w1 h (Nat.le_trans (Kv (by omega)) l1) (decide (x < 0))
   rw [← hz] at HS
   have ho : 0 ≤ ord x.natAbs y.natAbs := by unfold ord; rw [if_neg hl]; split <;> omega
   generalize ord x.natAbs y.natAbs = ov at *
   clear hs hz l1 l2 hl
   clear ha hb fx fy
   generalize hbx : decide (x < 0) = bx at *
   generalize hby : decide (y < 0) = by_ at *
   generalize hlx : (limbs x.natAbs).length = lx at *
   generalize hly : (limbs y.natAbs).length = ly at *
   have HH := hid (And.intro hbx (And.intro hby (And.intro hlx hly)))
   clear hbx hby hlx hly
   go_enter Tryz.func102, Tryz.ntmps102
   go_wp2_with fail
   refine (HX.out _ BL).mono ?_
   rintro e w1 ⟨rfl, h1⟩
   obtain ⟨p1, p2, p3, p4, p5, p6, p7⟩ := Kr h1
   have b1 : Below w.heap.size w w1 := Below.trans (b := _) BL (h1.mono (by simp; omega))
   go_wp2_with fail
   refine (HY.out _ b1).mono ?_
   rintro e w2 ⟨rfl, h2⟩
   have h12 := h1.trans (h2.mono h1.size)
   obtain ⟨q1, q2, q3, q4, q5, q6, q7⟩ := Kr h12
   have b2 := b1.trans (h2.mono b1.size)
   go_wp2_with fail
   refine (HO.out _ b2).mono ?_
   rintro e w2o ⟨rfl, h2o⟩
   have h12 := h12.trans (h2o.mono h12.size)
   obtain ⟨q1, q2, q3, q4, q5, q6, q7⟩ := Kr h12
   have b2 := b2.trans (h2o.mono b2.size)
   go_wp2_with fail
   have b2d := b2.drew
   have h12d := h12.drew
   go_region_held3 (fun w' => w'.cell? ⟨w.heap.size, 0, none⟩ = some (.bool bx) ∧ w'.cell? ⟨w.heap.size, 1, none⟩ = some (.slice A lx c) ∧ w'.cell? ⟨w.heap.size + 1, 0, none⟩ = some (.bool by_) ∧ w'.cell? ⟨w.heap.size + 1, 1, none⟩ = some (.slice B ly d)) (first | exact ⟨(q1 0).trans rfl, (q1 1).trans rfl, (q3 0).trans rfl, (q3 1).trans rfl⟩ | exact ⟨(u1 0).trans rfl, (u1 1).trans rfl, (u3 0).trans rfl, (u3 1).trans rfl⟩ | exact ⟨(r1 0).trans rfl, (r1 1).trans rfl, (r3 0).trans rfl, (r3 1).trans rfl⟩ | (refine ⟨?_, ?_, ?_, ?_⟩ <;> (repeat rw [Qc (by omega)]) <;> first | exact (r1 0).trans rfl | exact (r1 1).trans rfl | exact (r3 0).trans rfl | exact (r3 1).trans rfl)) (first | (go_at_call 133; refine (HM.out _ b2d).mono ?_; rintro e w3' ⟨R', cc', rfl, hr', h3'⟩; have h13' := h12d.trans (h3'.mono h12d.size); obtain ⟨u1, u2, u3, u4, u5, u6, u7⟩ := Kr h13') | (go_at_call 129; refine (HS.out _ _ _ hr').mono ?_; rintro e w3 ⟨R, cc, rfl, hr, h3''⟩; have h3 := h3'.trans (h3''.mono h3'.size); have h13 := h12d.trans (h3.mono h12d.size); obtain ⟨r1, r2, r3, r4, r5, r6, r7⟩ := Kr h13))
   have b3 := b2d.trans (h3.mono b2d.size)
   have k0 := r5 0
   have k1 := r5 1
   simp at k0 k1
   go_wp2
   refine bodyPost_ret (v := .tuple #[.agg #[.bool (decide (((fitE (x + y)).1) < 0)), .slice R (limbs (Int.natAbs ((fitE (x + y)).1))).length cc], .int .i64 (fitE (x + y)).2]) ?_ rfl ?_
   ·simp [results, Tryz.results102, go_sem, k0, k1]
   ·exact Xa hr b3 (by omega) k0 k1 _ _
end Go.Proofs.YtdkgbkbbbldliaaGreat
