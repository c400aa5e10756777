/- The reference: walks of Valid, limb. Conditions: none. -/
import Derived.Test.YtglailcfgcdagaaZYE
import Derived.Test.YtglailcfgcdagaaZNtA
set_option linter.unusedVariables false
set_option linter.unusedSimpArgs false
namespace Go.Proofs.Ytglailcfgcdagaa
open Go.RowKit Big
set_option maxHeartbeats 400000 in
theorem RValid_any (neg : Bool) (A : Option Addr) (c : Nat) (xs : List Nat) (w : World) (ha : Mg w A c xs) :
  Calls Try.prog 65 #[.agg #[.bool neg, .slice A xs.length c]] w fun e w' => e = .returned (.bool (validB neg xs)) ∧ Below w.heap.size w w' := by
 by_cases h0 : xs = []
 ·subst h0
  have hv : validB neg [] = !neg := by simp [validB]
  rw [hv]
  clear ha hv
  go_enter Try.func65, Try.ntmps65
  go_wp2
  go_ret
  exact ⟨by simp, (Below.refl _ _).alloc (Nat.le_refl _) _⟩
 ·have hl0 : 0 < xs.length := List.length_pos_iff.2 h0
  have hl1 : ((xs.length : Int) == 0) = false := by rw [beq_eq_false_iff_ne]; omega
  have hv : validB neg xs = (decide (xs.length ≤ 512) && decide (xs.getLast? ≠ some 0)) := by unfold validB; rw [if_neg h0]
  have hm := ha.max
  have hm2 := ha.cap
  by_cases h5 : xs.length ≤ 512
  ·obtain ⟨b, o, rfl, hB, hc⟩ := ha.rd.at_ (k := xs.length - 1) (by omega)
   have c1 := hc (xs.length - 1) (by omega)
   unfold lim at c1
   have hlast : xs.getLast? = some xs[xs.length - 1] := by rw [List.getLast?_eq_getElem?, List.getElem?_eq_getElem (by omega)]
   rw [hlast] at hv
   generalize xs[xs.length - 1] = t at *
   by_cases ht : t = 0
   ·have hv2 : validB neg xs = false := by rw [hv]; simp [ht]
    rw [hv2]
    subst ht
    clear hc hlast hv hv2 h0 ha
    go_enter Try.func65, Try.ntmps65
    go_wp2
    go_ret
    exact ⟨rfl, (Below.refl _ _).alloc (Nat.le_refl _) _⟩
   ·have hv2 : validB neg xs = true := by rw [hv]; simp [ht, h5]
    have ht1 : ((t : Int) != 0) = true := by rw [bne_iff_ne]; omega
    rw [hv2]
    clear hc hlast hv hv2 h0 ha ht
    go_enter Try.func65, Try.ntmps65
    go_wp2
    go_ret
    exact ⟨rfl, (Below.refl _ _).alloc (Nat.le_refl _) _⟩
  ·have hv2 : validB neg xs = false := by rw [hv]; simp [h5]
   rw [hv2]
   clear hv hv2 h0 ha
   go_enter Try.func65, Try.ntmps65
   go_wp2
   go_ret
   exact ⟨rfl, (Below.refl _ _).alloc (Nat.le_refl _) _⟩
theorem RValid_t {z : Int} {A : Option Addr} {c : Nat} {w : World} (ha : Mg w A c (limbs z.natAbs)) (h : fits z) :
  Calls Try.prog 65 #[.agg #[.bool (decide ((z) < 0)), .slice A (limbs (Int.natAbs (z))).length c]] w fun e w' => e = .returned (.bool true) ∧ Below w.heap.size w w' :=
 (RValid_any _ A c _ w ha).mono fun e w' ⟨h1, h2⟩ => ⟨by rw [h1, validB_z h], h2⟩
/-- limb(m, i): the limb at i, 0 beyond the end -/
theorem Rlimb_any (A : Option Addr) (c : Nat) (xs : List Nat) (w : World) (ha : Mg w A c xs) (i : Nat) (hi : i ≤ 1099511627776) :
  Calls Try.prog 124 #[.slice A xs.length c, .int .i64 i] w fun e w' => e = .returned (.int .u64 ((xs[i]?.getD 0 : Nat) : Int)) ∧ w = w' := by
 have hm := ha.max
 have hm2 := ha.cap
 by_cases h : i < xs.length
 ·obtain ⟨b, o, rfl, hB, hc⟩ := ha.rd.at_ h
  have c1 := hc i h
  unfold lim at c1
  have hx := ha.ok xs[i] (List.getElem_mem h)
  have e : xs[i]?.getD 0 = xs[i] := by simp [List.getElem?_eq_getElem h]
  rw [e]
  have h1 : (i : Int) < (xs.length : Int) := by omega
  clear hc ha e
  generalize xs[i] = t at *
  go_enter Try.func124, Try.ntmps124
  go_wp2
  go_ret
  exact ⟨rfl, rfl⟩
 ·have e : xs[i]?.getD 0 = 0 := by simp [List.getElem?_eq_none (show xs.length ≤ i by omega)]
  rw [e]
  have h1 : ¬ (i : Int) < (xs.length : Int) := by omega
  clear ha e
  go_enter Try.func124, Try.ntmps124
  go_wp2
  go_ret
  exact ⟨rfl, rfl⟩
end Go.Proofs.Ytglailcfgcdagaa
/- The reference: walks of Trim, signed, limit. Conditions: none. -/
namespace Go.Proofs.Ytglailcfgcdagaa
open Go.RowKit Big
theorem own_lit (w : World) (e : TypeId) : (w.alloc (.cells #[] e)).ownsRow w.heap.size e 1 (.slice (some ⟨w.heap.size, 0, none⟩) 0 0) 0 [] :=
 ⟨rfl, .inr ⟨w.heap.size, 0, #[], rfl, Nat.le_refl _, by rw [heap_alloc_new], Nat.le_refl _, by unfold maxLen; omega, rfl, rfl⟩⟩
theorem RetZE.alloc {w w' : World} {z err : Int} {e : Ending} (h : RetZE w z err e w') (o : Obj) : RetZE w z err e (w'.alloc o) := by
 obtain ⟨A, c, h1, h2, h3⟩ := h
 exact ⟨A, c, h1, h2.alloc, h3.alloc h3.size _⟩
theorem RetZ.alloc {w w' : World} {z : Int} {e : Ending} (h : RetZ w z e w') (o : Obj) : RetZ w z e (w'.alloc o) := by
 obtain ⟨A, c, h1, h2, h3⟩ := h
 exact ⟨A, c, h1, h2.alloc, h3.alloc h3.size _⟩
/-- both fields of a box that has just been written, a block behind it -/
theorem box_set {W : World} {g : Nat} {o : Obj} {u0 u1 : Value} (k0 : W.cell? ⟨g, 0, none⟩ = some (.bool false)) (k1 : W.cell? ⟨g, 1, none⟩ = some (.slice none 0 0)) :
  (((W.setCell ⟨g, 0, none⟩ u0).setCell ⟨g, 1, none⟩ u1).alloc o).cell? ⟨g, 0, none⟩ = some u0 ∧ (((W.setCell ⟨g, 0, none⟩ u0).setCell ⟨g, 1, none⟩ u1).alloc o).cell? ⟨g, 1, none⟩ = some u1 :=
 ⟨keep_alloc (keep_off (by omega) (at_setB k0)), keep_alloc (at_setS (keep_off (by omega) k1))⟩
/-- limbs in new memory -/
def RetNF (w : World) (n : Nat) (e : Ending) (w' : World) : Prop :=
 ∃ A c, e = .returned (.slice A (limbs n).length c) ∧ Mg w' A c (limbs n) ∧ Below w.heap.size w w' ∧ Hid (∀ p, A = some p → w.heap.size ≤ p.block)
theorem RetNF.any {w w' : World} {n : Nat} {e : Ending} (h : RetNF w n e w') : RetN w n e w' := by
 obtain ⟨A, c, h1, h2, h3, _⟩ := h; exact ⟨A, c, h1, h2, h3⟩
theorem own_fresh {w : World} {base : Nat} {t : TypeId} {A : Option Addr} {n c m : Nat} {xs : List Value} (h : w.ownsRow base t 1 (.slice A n c) m xs) : ∀ p, A = some p → base ≤ p.block := by
 intro p hp
 subst hp
 rcases h.2 with ⟨h1, _⟩ | ⟨g, cap, cur, h1, hbg, _⟩
 ·cases h1
 ·injection h1 with h1
  injection h1 with h1
  subst h1
  exact hbg
/-- a copy of the first k limbs -/
theorem fin_copy {w w' : World} {A : Option Addr} {c : Nat} {xs : List Nat} {v' : Value} (h : Mg w A c xs) (k : Nat) (hk : k ≤ xs.length) (hz : ∀ i, k ≤ i → (hi : i < xs.length) → xs[i] = 0) (hl : k = 0 ∨ ∃ h : k - 1 < xs.length, xs[k - 1] ≠ 0)
  (hown : w'.ownsRow w.heap.size 97 1 v' (xs.take k).length ((xs.take k).map lim)) (hb : Below w.heap.size w w') : RetNF w (val xs) (.returned v') w' := by
 have e := limbs_trim h.ok k hk hz hl
 obtain ⟨A', c', rfl, h1, h2, h3⟩ := own_rd hown
 have hf := own_fresh hown
 rw [e] at h1 h3 ⊢
 exact ⟨A', c', rfl, ⟨h1, h2, ok_limbs _, h3⟩, hb, hf⟩
set_option maxHeartbeats 400000 in
theorem RTrim_fr (A : Option Addr) (c : Nat) (xs : List Nat) (w : World) (h : Mg w A c xs) (hs : xs.length ≤ 1073741824) :
  Calls Try.prog 92 #[.slice A xs.length c] w (RetNF w (val xs)) := by
 have hcap := h.cap
 have hmax := h.max
 go_enter Try.func92, Try.ntmps92
 go_wp2
 go_loop [3] (fun i => ∃ k : Nat, k ≤ xs.length ∧ i = .int .i64 k ∧ Hid (∀ i, k ≤ i → (hi : i < xs.length) → xs[i] = 0)) (fun i => (intOf i).toNat)
 case atStart => exact ⟨xs.length, Nat.le_refl _, rfl, fun i h1 h2 => absurd h1 (by omega)⟩
 case round =>
  obtain ⟨k, hk, rfl, hz⟩ := hrel
  by_cases h0 : 0 < k
  ·have hk1 : k - 1 < xs.length := by omega
   obtain ⟨b, o, rfl, hb, hc⟩ := h.rd.at_ hk1
   have c1 := hc (k - 1) hk1
   unfold lim at c1
   clear hc
   by_cases he : xs[k - 1] = 0
   ·have he1 : ((xs[k - 1] : Int) == 0) = true := by simp [he]
    have HE := hid he
    clear he
    go_wp2
    go_round
    case rel => exact ⟨k - 1, by omega, by go_num, fun i h1 h2 => by
     by_cases hj : i = k - 1
     ·subst hj; exact HE.out
     ·exact hz.out i (by omega) h2⟩
    case measure => simp [intOf]; omega
   ·have he1 : ((xs[k - 1] : Int) == 0) = false := by simp; omega
    have HE := hid he
    clear he
    have hr := (h.rd.take k).below ((Below.refl w.heap.size w).alloc (Nat.le_refl _) (.cells #[] 97))
    go_wp2_with (at_builtin; refine wpList_app rfl (.tmp 18) (.tmp 21) 36 rfl 97 (.int .u32 0) 4 Try.underlying36 info32 rfl w.heap.size lim (fun _ => rfl) _ [] rfl (own_lit w _) _ c (xs.take k) (by rw [List.length_take, Nat.min_eq_left hk]; rfl) hr (by simp; omega) (by simp; omega) (by simp) ?_; intro v' w2 hown hgr hwh)
    go_ret
    exact fin_copy h k hk hz.out (.inr ⟨hk1, HE.out⟩) hown (((Below.refl _ _).alloc (Nat.le_refl _) _).trans (below_app (own_lit w _) hgr (by simp)))
  ·have hk0 : k = 0 := by omega
   subst hk0
   have hr := (Rd.nil (f := lim) (w.alloc (.cells #[] 97)) A)
   go_wp2_with (at_builtin; refine wpList_app rfl (.tmp 18) (.tmp 21) 36 rfl 97 (.int .u32 0) 4 Try.underlying36 info32 rfl w.heap.size lim (fun _ => rfl) _ [] rfl (own_lit w _) _ c [] rfl hr (by simp) (by simp) (by simp) ?_; intro v' w2 hown hgr hwh)
   go_ret
   exact fin_copy h 0 hk hz.out (.inl rfl) hown (((Below.refl _ _).alloc (Nat.le_refl _) _).trans (below_app (own_lit w _) hgr (by simp)))
theorem RTrim_any (A : Option Addr) (c : Nat) (xs : List Nat) (w : World) (h : Mg w A c xs) (hs : xs.length ≤ 1073741824) :
  Calls Try.prog 92 #[.slice A xs.length c] w (RetN w (val xs)) := (RTrim_fr A c xs w h hs).mono fun _ _ h => h.any
set_option maxHeartbeats 400000 in
theorem Rsigned_any (neg : Bool) (A : Option Addr) (c : Nat) (xs : List Nat) (w : World) (ha : Mg w A c xs) (hs : xs.length ≤ 1073741824) :
  Calls Try.prog 73 #[.bool neg, .slice A xs.length c] w (RetZ w (sg neg (val xs))) := by
 have HT := hid fun (w1 : World) (h : Below w.heap.size w w1) => RTrim_any A c xs w1 (ha.below h) hs
 clear ha hs
 generalize val xs = n at *
 generalize xs.length = lx at *
 go_enter Try.func73, Try.ntmps73
 go_wp2_with fail
 refine (HT.out _ (by repeat (first | assumption | exact Below.refl _ _ | refine Below.alloc ?_ (by simp; try omega) _ | refine Below.drew ?_ | refine below_drewN ?_ _))).mono ?_
 rintro e w1 ⟨R, cc, rfl, hr, h1⟩
 obtain ⟨p1, p2, p3⟩ := box_keep h1
 have b1 : Below w.heap.size w w1 := Below.trans (b := _) (by repeat (first | assumption | exact Below.refl _ _ | refine Below.alloc ?_ (by simp; try omega) _ | refine Below.drew ?_ | refine below_drewN ?_ _)) (h1.mono (by simp))
 have k0 := p1 0
 have k1 := p1 1
 simp at k0 k1
 by_cases h0 : n = 0
 ·subst h0
  rw [limbs_zero] at *
  simp only [List.length_nil]
  cases neg
  all_goals
   go_wp2
   refine bodyPost_ret (v := .agg #[.bool false, .slice R 0 cc]) ?_ rfl ?_
   ·simp [results, Try.results73, go_sem, k0, k1]
   ·rw [sg_zero]
    exact ⟨R, cc, by simp [limbs_zero], by simpa [limbs_zero] using (Mg.setS (by rw [cell_set_ne (by omega)]; exact k1) (Mg.setB k0 hr)), below_set (below_set b1 (by omega) _ _) (by omega) _ _⟩
 ·have hl : 0 < (limbs n).length := by rw [limbs_pos h0]; simp
  have hsn := hid (And.intro (sg_neg neg n h0) (natAbs_sg neg n))
  clear h0
  cases neg
  ·go_wp2
   refine bodyPost_ret (v := .agg #[.bool false, .slice R (limbs n).length cc]) ?_ rfl ?_
   ·simp [results, Try.results73, go_sem, k0, k1]
   ·exact ⟨R, cc, by rw [hsn.out.1, hsn.out.2], by rw [hsn.out.2]; exact (Mg.setS (by rw [cell_set_ne (by omega)]; exact k1) (Mg.setB k0 hr)), below_set (below_set b1 (by omega) _ _) (by omega) _ _⟩
  ·go_wp2
   refine bodyPost_ret (v := .agg #[.bool true, .slice R (limbs n).length cc]) ?_ rfl ?_
   ·simp [results, Try.results73, go_sem, k0, k1]
   ·exact ⟨R, cc, by rw [hsn.out.1, hsn.out.2], by rw [hsn.out.2]; exact (Mg.setS (by rw [cell_set_ne (by omega)]; exact k1) (Mg.setB k0 hr)), below_set (below_set b1 (by omega) _ _) (by omega) _ _⟩
set_option maxHeartbeats 400000 in
theorem Rlimit_any (neg : Bool) (A : Option Addr) (c : Nat) (xs : List Nat) (w : World) (ha : Mg w A c xs) (hs : xs.length ≤ 1073741824) :
  Calls Try.prog 84 #[.bool neg, .slice A xs.length c] w (RetF w (sg neg (val xs))) := by
 have HT := hid fun (w1 : World) (h : Below w.heap.size w w1) => Rsigned_any neg A c xs w1 (ha.below h) hs
 clear ha hs
 generalize sg neg (val xs) = z at *
 generalize xs.length = lx at *
 by_cases hf : fits z
 ·have hR : RetF w z = RetZE w z 0 := by unfold RetF; rw [fitE_yes hf]
  rw [hR]
  have hl : (limbs z.natAbs).length ≤ 512 := hf
  clear hR hf
  go_enter Try.func84, Try.ntmps84
  go_wp2_with fail
  refine (HT.out _ (by repeat (first | assumption | exact Below.refl _ _ | refine Below.alloc ?_ (by simp; try omega) _ | refine Below.drew ?_ | refine below_drewN ?_ _))).mono ?_
  rintro e w1 ⟨R, cc, rfl, hr, h1⟩
  obtain ⟨p1, p2, p3⟩ := box_keep h1
  have b1 : Below w.heap.size w w1 := Below.trans (b := _) (by repeat (first | assumption | exact Below.refl _ _ | refine Below.alloc ?_ (by simp; try omega) _ | refine Below.drew ?_ | refine below_drewN ?_ _)) (h1.mono (by simp))
  have k0 := p1 0
  have k1 := p1 1
  simp at k0 k1
  go_wp2
  refine bodyPost_ret (v := .tuple #[.agg #[.bool (decide ((z) < 0)), .slice R (limbs (Int.natAbs (z))).length cc], .int .i64 0]) ?_ rfl ?_
  ·simp [results, Try.results84, go_sem, box_set k0 k1]
  ·exact (fin_ze hr b1 (Nat.le_refl _) k0 k1 _ _).alloc _
 ·have hR : RetF w z = RetZE w 0 4 := by unfold RetF; rw [fitE_no hf]
  rw [hR]
  have hl : 512 < (limbs z.natAbs).length := by unfold fits at hf; omega
  clear hR hf
  go_enter Try.func84, Try.ntmps84
  go_wp2_with fail
  refine (HT.out _ (by repeat (first | assumption | exact Below.refl _ _ | refine Below.alloc ?_ (by simp; try omega) _ | refine Below.drew ?_ | refine below_drewN ?_ _))).mono ?_
  rintro e w1 ⟨R, cc, rfl, hr, h1⟩
  obtain ⟨p1, p2, p3⟩ := box_keep h1
  have b1 : Below w.heap.size w w1 := Below.trans (b := _) (by repeat (first | assumption | exact Below.refl _ _ | refine Below.alloc ?_ (by simp; try omega) _ | refine Below.drew ?_ | refine below_drewN ?_ _)) (h1.mono (by simp))
  have k0 := p1 0
  have k1 := p1 1
  simp at k0 k1
  go_wp2
  refine bodyPost_ret (v := .tuple #[.agg #[.bool false, .slice none 0 0], .int .i64 4]) ?_ rfl ?_
  ·simp [results, Try.results84, go_sem, box_set k0 k1]
  ·exact (retZE_zero 4 (below_set (below_set b1 (Nat.le_refl _) _ _) (Nat.le_refl _) _ _)).alloc _
end Go.Proofs.Ytglailcfgcdagaa
/- The reference: walks of order, plus, minus. Conditions: none. -/
namespace Go.Proofs.Ytglailcfgcdagaa
open Go.RowKit Big
theorem val_cut {xs : List Nat} (ho : Ok xs) (j : Nat) : ∃ l, l < 4294967296 ^ j ∧ val xs = l + 4294967296 ^ j * val (xs.drop j) := by
 rcases Nat.le_total j xs.length with h | h
 ·refine ⟨val (xs.take j), ?_, val_split xs j h⟩
  have := val_lt_pow (ho.take j)
  rwa [List.length_take, Nat.min_eq_left h] at this
 ·refine ⟨val xs, Nat.lt_of_lt_of_le (val_lt_pow ho) (Nat.pow_le_pow_right (by decide) h), by rw [val_out xs h]; rfl⟩
theorem ord_at {xs ys : List Nat} (hx : Ok xs) {j : Nat} (h : val (xs.drop (j + 1)) = val (ys.drop (j + 1))) (hlt : lb xs j < lb ys j) (hy : Ok ys) : val xs < val ys := by
 obtain ⟨l, h1, h2⟩ := val_cut hx j
 obtain ⟨m, h3, h4⟩ := val_cut hy j
 rw [h2, h4, val_drop xs j, val_drop ys j, h]
 generalize 4294967296 ^ j = P at *
 have h5 : P * (lb xs j + 1 + 4294967296 * val (ys.drop (j + 1))) ≤ P * (lb ys j + 4294967296 * val (ys.drop (j + 1))) := Nat.mul_le_mul_left _ (by omega)
 generalize val (ys.drop (j + 1)) = r at *
 simp only [Nat.mul_add, Nat.mul_one] at *
 omega
set_option maxHeartbeats 1000000 in
theorem Rorder_any (A B : Option Addr) (c d : Nat) (xs ys : List Nat) (w : World) (ha : Mg w A c xs) (hb : Mg w B d ys) (hs : xs.length ≤ 1073741824) (ht : ys.length ≤ 1073741824) :
  Calls Try.prog 111 #[.slice A xs.length c, .slice B ys.length d] w fun e w' => e = .returned (.int .i64 (ord (val xs) (val ys))) ∧ w = w' := by
 have HX := hid fun (i : Nat) (hi : i ≤ 1099511627776) => Rlimb_any A c xs w ha i hi
 have HY := hid fun (i : Nat) (hi : i ≤ 1099511627776) => Rlimb_any B d ys w hb i hi
 have OX := hid ha.ok
 have OY := hid hb.ok
 clear ha hb
 change Hid (∀ (i : Nat), i ≤ 1099511627776 → Calls _ _ _ w fun e w' => e = .returned (.int .u64 ((lb xs i : Nat) : Int)) ∧ w = w') at HX
 change Hid (∀ (i : Nat), i ≤ 1099511627776 → Calls _ _ _ w fun e w' => e = .returned (.int .u64 ((lb ys i : Nat) : Int)) ∧ w = w') at HY
 go_enter Try.func111, Try.ntmps111
 go_wp2
 go_loop [6] (fun i => ∃ k : Nat, k ≤ max xs.length ys.length ∧ i = .int .i64 ((k : Int) - 1) ∧ Hid (val (xs.drop k) = val (ys.drop k))) (fun i => (intOf i + 1).toNat)
 case atStart => exact ⟨max xs.length ys.length, Nat.le_refl _, by congr 1; omega, by unfold Hid; rw [val_out xs (by omega), val_out ys (by omega)]⟩
 case round =>
  obtain ⟨k, hk, rfl, he⟩ := hrel
  by_cases h0 : 0 < k
  ·obtain ⟨j, rfl⟩ : ∃ j, k = j + 1 := ⟨k - 1, by omega⟩
   have e1 : ((j + 1 : Nat) : Int) - 1 = (j : Int) := by omega
   rw [e1]
   have hx := lb_lt OX.out j
   have hy := lb_lt OY.out j
   have HR := hid (fun h => ord_lt (ord_at OX.out he.out h OY.out))
   have HG := hid (fun h => ord_gt (ord_at OY.out he.out.symm h OX.out))
   have HE := hid (fun h : lb xs j = lb ys j => (show val (xs.drop j) = val (ys.drop j) by rw [val_drop xs j, val_drop ys j, h, he.out]))
   have HX1 := hid (HX.out j (by omega))
   have HY1 := hid (HY.out j (by omega))
   clear HX HY
   generalize lb xs j = x at *
   generalize lb ys j = y at *
   rcases Nat.lt_trichotomy x y with h | h | h
   ·go_wp2_with fail
    refine HX1.out.mono ?_
    rintro e w1 ⟨rfl, rfl⟩
    go_wp2_with fail
    refine HY1.out.mono ?_
    rintro e w1 ⟨rfl, rfl⟩
    go_wp2_with fail
    go_ret
    exact ⟨by rw [HR.out h] <;> rfl, rfl⟩
   ·have HH := hid (HE.out h)
    subst h
    go_wp2_with fail
    refine HX1.out.mono ?_
    rintro e w1 ⟨rfl, rfl⟩
    go_wp2_with fail
    refine HY1.out.mono ?_
    rintro e w1 ⟨rfl, rfl⟩
    go_wp2_with fail
    refine HX1.out.mono ?_
    rintro e w1 ⟨rfl, rfl⟩
    go_wp2_with fail
    refine HY1.out.mono ?_
    rintro e w1 ⟨rfl, rfl⟩
    go_wp2_with fail
    go_round
    case rel => exact ⟨j, by omega, by first | rfl | go_num, HH⟩
    case measure => simp [intOf] <;> omega
   ·go_wp2_with fail
    refine HX1.out.mono ?_
    rintro e w1 ⟨rfl, rfl⟩
    go_wp2_with fail
    refine HY1.out.mono ?_
    rintro e w1 ⟨rfl, rfl⟩
    go_wp2_with fail
    refine HX1.out.mono ?_
    rintro e w1 ⟨rfl, rfl⟩
    go_wp2_with fail
    refine HY1.out.mono ?_
    rintro e w1 ⟨rfl, rfl⟩
    go_wp2_with fail
    go_ret
    exact ⟨by rw [HG.out h] <;> rfl, rfl⟩
  ·obtain rfl : k = 0 := by omega
   have HH := hid he.out
   rw [List.drop_zero, List.drop_zero] at HH
   go_wp2_with fail
   go_ret
   exact ⟨by rw [HH.out, ord_eq] <;> rfl, rfl⟩
/-- behind one append of a new limb -/
theorem below_app1 {w wr w5 : World} {v : Value} {D : List Nat} {m : Nat} (hown : wr.ownsRow w.heap.size 97 1 v D.length (D.map lim)) (hbl : Below w.heap.size w wr)
  (hgr : (wr.alloc (.cells #[.int .u32 (m : Int)] 97)).grownBy w5 v.ownBlock) : Below w.heap.size w w5 :=
 (hbl.alloc hbl.size _).trans (below_app (own_below hown ((Below.refl _ _).alloc (Nat.le_refl _) (.cells #[.int .u32 (m : Int)] 97))) hgr (by have := hbl.size; simp; omega))
theorem own_trim {w wr : World} {v : Value} {D : List Nat} {n : Nat} (hown : wr.ownsRow w.heap.size 97 1 v D.length (D.map lim)) (hbl : Below w.heap.size w wr) (ho : Ok D) (hl : D.length ≤ 1073741824) (hv : val D = n) :
  Calls Try.prog 92 #[v] wr (RetNF w n) := by
 obtain ⟨A, c, rfl, h1, h2, h3⟩ := own_rd hown
 have h := RTrim_fr A c D wr ⟨h1, h2, ho, h3⟩ hl
 subst hv
 exact h.mono fun e w' ⟨A', c', g1, g2, g3, g4⟩ => ⟨A', c', g1, g2, hbl.trans (g3.mono hbl.size), fun p hp => Nat.le_trans hbl.size (g4.out p hp)⟩
set_option maxHeartbeats 1000000 in
theorem Rplus_fr (A B : Option Addr) (c d : Nat) (xs ys : List Nat) (w : World) (ha : Mg w A c xs) (hb : Mg w B d ys) (hs : xs.length ≤ 1048576) (ht : ys.length ≤ 1048576) :
  Calls Try.prog 110 #[.slice A xs.length c, .slice B ys.length d] w (RetNF w (val xs + val ys)) := by
 have HX := hid fun (w1 : World) (h : Below w.heap.size w w1) (i : Nat) (hi : i ≤ 1099511627776) => Rlimb_any A c xs w1 (ha.below h) i hi
 have HY := hid fun (w1 : World) (h : Below w.heap.size w w1) (i : Nat) (hi : i ≤ 1099511627776) => Rlimb_any B d ys w1 (hb.below h) i hi
 have OX := hid ha.ok
 have OY := hid hb.ok
 clear ha hb
 change Hid (∀ (w1 : World), Below w.heap.size w w1 → ∀ (i : Nat), i ≤ 1099511627776 → Calls _ _ _ w1 fun e w' => e = .returned (.int .u64 ((lb xs i : Nat) : Int)) ∧ w1 = w') at HX
 change Hid (∀ (w1 : World), Below w.heap.size w w1 → ∀ (i : Nat), i ≤ 1099511627776 → Calls _ _ _ w1 fun e w' => e = .returned (.int .u64 ((lb ys i : Nat) : Int)) ∧ w1 = w') at HY
 go_enter Try.func110, Try.ntmps110
 go_wp2
 go_loopw [5, 6, 7] (fun s5 s6 s7 wr => ∃ (k q : Nat) (v : Value) (D : List Nat), k ≤ max xs.length ys.length ∧ s7 = .int .i64 k ∧ s6 = .int .u64 q ∧ q ≤ 1 ∧ s5 = v ∧ wr.ownsRow w.heap.size 97 1 v D.length (D.map lim) ∧ Below w.heap.size w wr ∧ Hid (Cry (val xs + val ys) k q (val (xs.drop k) + val (ys.drop k)) D)) (fun _ _ s7 _ => max xs.length ys.length - (intOf s7).toNat)
 case atStart => exact ⟨0, 0, _, [], by omega, rfl, rfl, by omega, rfl, World.ownsRow_nil _ _ _ _, Below.refl _ _, by unfold Hid; have := Cry.start 0 (val xs + val ys); simpa using this⟩
 case round =>
  obtain ⟨k, q, v, D, hk, rfl, rfl, hq, rfl, hown, hbl, hc⟩ := hrel
  have hD := hc.out.len
  by_cases h0 : k < max xs.length ys.length
  ·have hx := lb_lt OX.out k
   have hy := lb_lt OY.out k
   have HX1 := hid (HX.out wr hbl k (by omega))
   have HY1 := hid (HY.out wr hbl k (by omega))
   have HC := hid (fun s hs => hc.out.step (t := lb xs k + lb ys k) (R' := val (xs.drop (k + 1)) + val (ys.drop (k + 1))) (s := s) (by rw [val_drop xs k, val_drop ys k]; omega) hs)
   clear HX HY hc
   generalize lb xs k = x at *
   generalize lb ys k = y at *
   obtain ⟨m, hm⟩ : ∃ m, (x + y + q) % 4294967296 = m := ⟨_, rfl⟩
   obtain ⟨u, hu⟩ : ∃ u, (x + y + q) / 4294967296 = u := ⟨_, rfl⟩
   have hm1 : ((x : Int) + (y : Int) + (q : Int)) % 4294967296 = (m : Int) := by omega
   have hu1 : ((x : Int) + (y : Int) + (q : Int)) / 4294967296 = (u : Int) := by omega
   have hm2 : m < 4294967296 := by omega
   have hu2 : u ≤ 1 := by omega
   have HC2 := hid (HC.out _ rfl)
   rw [hm, hu] at HC2
   clear HC hm hu
   go_wp2_with fail
   refine HX1.out.mono ?_
   rintro e w1 ⟨rfl, rfl⟩
   go_wp2_with fail
   refine HY1.out.mono ?_
   rintro e w1 ⟨rfl, rfl⟩
   have hsz := hbl.size
   go_wp2_with (at_builtin; refine wpList_app rfl (.tmp 27) (.tmp 31) 36 rfl 97 (.int .u32 0) 4 Try.underlying36 info32 rfl w.heap.size lim (fun _ => rfl) _ D rfl (own_below hown ((Below.refl _ _).alloc (Nat.le_refl _) (.cells #[.int .u32 (m : Int)] 97))) _ 1 [m] rfl (rd_one lim _ m 97) (by simp; omega) (by simp; omega) (by simp; omega) ?_; intro v5 w5 hown5 hgr hwh)
   go_roundw
   case rel => exact ⟨k + 1, u, v5, D ++ [m], by omega, by go_num, by rw [hu1], hu2, rfl, hown5, below_app1 hown hbl hgr, HC2⟩
   case measure => simp [intOf]; omega
  ·obtain rfl : k = max xs.length ys.length := by omega
   have hl := hc.out
   rw [val_out xs (by omega), val_out ys (by omega)] at hl
   have hv := hid hl.last
   have hok := hid (ok_snoc hl.ok (show q < 4294967296 by omega))
   clear HX HY hc hl
   have hsz := hbl.size
   go_wp2_with (first | (at_builtin; refine wpList_app rfl (.tmp 35) (.tmp 38) 36 rfl 97 (.int .u32 0) 4 Try.underlying36 info32 rfl w.heap.size lim (fun _ => rfl) _ D rfl (own_below hown ((Below.refl _ _).alloc (Nat.le_refl _) (.cells #[.int .u32 (q : Int)] 97))) _ 1 [q] rfl (rd_one lim _ q 97) (by simp; omega) (by simp; omega) (by simp; omega) ?_; intro v5 w5 hown5 hgr hwh; have hb5 := below_app1 hown hbl hgr) | (go_at_call 92; refine (own_trim hown5 hb5 hok.out (by simp; omega) hv.out).mono ?_; rintro e w6 ⟨R, cc, rfl, hr1, hr2⟩))
   go_ret
   exact ⟨R, cc, rfl, hr1, hr2⟩
set_option maxHeartbeats 1000000 in
theorem Rminus_fr (A B : Option Addr) (c d : Nat) (xs ys : List Nat) (w : World) (ha : Mg w A c xs) (hb : Mg w B d ys) (hs : xs.length ≤ 1048576) (hl : ys.length ≤ xs.length) (hle : val ys ≤ val xs) :
  Calls Try.prog 112 #[.slice A xs.length c, .slice B ys.length d] w (RetNF w (val xs - val ys)) := by
 have HX := hid fun (w1 : World) (h : Below w.heap.size w w1) (i : Nat) (hi : i ≤ 1099511627776) => Rlimb_any A c xs w1 (ha.below h) i hi
 have HY := hid fun (w1 : World) (h : Below w.heap.size w w1) (i : Nat) (hi : i ≤ 1099511627776) => Rlimb_any B d ys w1 (hb.below h) i hi
 have OX := hid ha.ok
 have OY := hid hb.ok
 have HLE := hid hle
 clear ha hb hle
 change Hid (∀ (w1 : World), Below w.heap.size w w1 → ∀ (i : Nat), i ≤ 1099511627776 → Calls _ _ _ w1 fun e w' => e = .returned (.int .u64 ((lb xs i : Nat) : Int)) ∧ w1 = w') at HX
 change Hid (∀ (w1 : World), Below w.heap.size w w1 → ∀ (i : Nat), i ≤ 1099511627776 → Calls _ _ _ w1 fun e w' => e = .returned (.int .u64 ((lb ys i : Nat) : Int)) ∧ w1 = w') at HY
 go_enter Try.func112, Try.ntmps112
 go_wp2
 go_loopw [5, 6, 7] (fun s5 s6 s7 wr => ∃ (k q : Nat) (v : Value) (D : List Nat), k ≤ xs.length ∧ s7 = .int .i64 k ∧ s6 = .int .u64 q ∧ q ≤ 1 ∧ s5 = v ∧ wr.ownsRow w.heap.size 97 1 v D.length (D.map lim) ∧ Below w.heap.size w wr ∧ Hid (Brw xs ys k q D)) (fun _ _ s7 _ => xs.length - (intOf s7).toNat)
 case atStart => exact ⟨0, 0, _, [], by omega, rfl, rfl, by omega, rfl, World.ownsRow_nil _ _ _ _, Below.refl _ _, Brw.start _ _⟩
 case round =>
  obtain ⟨k, q, v, D, hk, rfl, rfl, hq, rfl, hown, hbl, hc⟩ := hrel
  have hD := hc.out.len
  by_cases h0 : k < xs.length
  ·have hx := lb_lt OX.out k
   have hy := lb_lt OY.out k
   have HX1 := hid (HX.out wr hbl k (by omega))
   have HY1 := hid (HY.out wr hbl k (by omega))
   have HC := hid (fun s hs => hc.out.step (s := s) hs hx)
   clear HX HY hc
   generalize lb xs k = x at *
   generalize lb ys k = y at *
   obtain ⟨S, hS⟩ : ∃ S : Nat, S + y + q = 4294967296 + x := ⟨4294967296 + x - y - q, by omega⟩
   have HC2 := hid (HC.out S hS)
   have hS1 : (4294967296 : Int) + (x : Int) - (y : Int) - (q : Int) = (S : Int) := by omega
   have hS2 : S < 8589934592 := by omega
   obtain ⟨m, hm⟩ : ∃ m, S % 4294967296 = m := ⟨_, rfl⟩
   obtain ⟨u, hu⟩ : ∃ u, S / 4294967296 = u := ⟨_, rfl⟩
   have hm1 : (S : Int) % 4294967296 = (m : Int) := by omega
   have hu1 : (S : Int) / 4294967296 = (u : Int) := by omega
   have hm2 : m < 4294967296 := by omega
   have hu2 : u ≤ 1 := by omega
   rw [hm, hu] at HC2
   clear HC hm hu hS
   go_wp2_with fail
   refine HX1.out.mono ?_
   rintro e w1 ⟨rfl, rfl⟩
   go_wp2_with fail
   refine HY1.out.mono ?_
   rintro e w1 ⟨rfl, rfl⟩
   have hsz := hbl.size
   go_wp2_with (at_builtin; refine wpList_app rfl (.tmp 25) (.tmp 29) 36 rfl 97 (.int .u32 0) 4 Try.underlying36 info32 rfl w.heap.size lim (fun _ => rfl) _ D rfl (own_below hown ((Below.refl _ _).alloc (Nat.le_refl _) (.cells #[.int .u32 (m : Int)] 97))) _ 1 [m] rfl (rd_one lim _ m 97) (by simp; omega) (by simp; omega) (by simp; omega) ?_; intro v5 w5 hown5 hgr hwh)
   go_roundw
   case rel => exact ⟨k + 1, 1 - u, v5, D ++ [m], by omega, by go_num, by first | (rw [hS1, hu1]; congr 1; omega) | (congr 1; omega), by omega, rfl, hown5, below_app1 hown hbl hgr, HC2⟩
   case measure => simp [intOf]; omega
  ·obtain rfl : k = xs.length := by omega
   have hv := hid (hc.out.last (Nat.le_refl _) hl HLE.out)
   have hok := hid hc.out.ok
   clear HX HY hc
   have hsz := hbl.size
   go_wp2_with (go_at_call 92; refine (own_trim hown hbl hok.out (by omega) hv.out).mono ?_; rintro e w6 ⟨R, cc, rfl, hr1, hr2⟩)
   go_ret
   exact ⟨R, cc, rfl, hr1, hr2⟩
end Go.Proofs.Ytglailcfgcdagaa
/- The reference: walks of times, half. Conditions: none. -/
namespace Go.Proofs.Ytglailcfgcdagaa
open Go.RowKit Big
theorem Rtrim_fin {L : List Nat} {w wr : World} {n : Nat} {R : Ending → World → Prop} (hL : LB wr w.heap.size L) (ho : Ok L) (hl : L.length = n) (hn : n ≤ 1073741824) (v : Nat) (hv : val L = v) (hbl : Below w.heap.size w wr) (hR : ∀ e w', RetN w v e w' → R e w') :
  Calls Try.prog 92 #[.slice (some ⟨w.heap.size, 0, none⟩) n n] wr R := by
 subst hl; subst hv
 have hm := hL.mg ho (by omega)
 refine (RTrim_any _ _ _ _ hm hn).mono fun e' w' h => hR _ _ ?_
 obtain ⟨A', c', h1, h2, h3⟩ := h
 exact ⟨A', c', h1, h2, hbl.trans (h3.mono hbl.size)⟩
set_option maxHeartbeats 2000000 in
theorem Rtimes_any (A B : Option Addr) (c d : Nat) (xs ys : List Nat) (w : World) (ha : Mg w A c xs) (hb : Mg w B d ys) (hs : xs.length ≤ 1048576) (ht : ys.length ≤ 1048576) :
  Calls Try.prog 85 #[.slice A xs.length c, .slice B ys.length d] w (RetN w (val xs * val ys)) := by
 have hmk := make32 (xs.length + ys.length) (by omega)
 rw [show ((xs.length + ys.length : Nat) : Int) = (xs.length : Int) + (ys.length : Int) from by omega] at hmk
 go_enter Try.func85, Try.ntmps85
 go_wp2
 go_loopw [6] (fun i wr => ∃ (k : Nat) (L : List Nat), k ≤ xs.length ∧ i = .int .i64 k ∧ Below w.heap.size w wr ∧ LB wr w.heap.size L ∧ MulAt xs ys k L) (fun i _ => xs.length - (intOf i).toNat)
 case atStart => exact ⟨0, _, Nat.zero_le _, rfl, (Below.refl _ _).alloc (Nat.le_refl _) _, LB.made w (xs.length + ys.length), .start _ _⟩
 case round =>
  obtain ⟨k, L0, hk, rfl, hbl0, hL0, hat0⟩ := hrel
  obtain ⟨wo, rfl⟩ : ∃ wo : World, wo = wr := ⟨_, rfl⟩
  by_cases hkl : k < xs.length
  ·go_wp2
   go_loopw [7, 8] (fun cr i wr => ∃ (j q : Nat) (L : List Nat), j ≤ ys.length ∧ i = .int .i64 j ∧ cr = .int .u64 q ∧ q < 4294967296 ∧ Below w.heap.size w wr ∧ LB wr w.heap.size L ∧ MulIn xs ys k j q L) (fun _ i _ => ys.length - (intOf i).toNat)
   case atStart => exact ⟨0, 0, L0, Nat.zero_le _, rfl, rfl, by omega, hbl0, hL0, hat0.inner⟩
   case round =>
    obtain ⟨j, q, L, hj, rfl, rfl, hq, hbl, hL, hat⟩ := hrel
    clear hbl0 hL0 hat0
    have hgl := hL.lt
    have hwz := hbl.size
    by_cases hjl : j < ys.length
    ·have hkL : k + j < L.length := by rw [hat.len hk hj]; omega
     have cell0 := hL.cell (k + j) hkL
     have free0 := hL.free (k + j)
     obtain ⟨ba, oa, rfl, hba, hca⟩ := ha.rd.at_ hkl
     have c1 := (hbl.cell (p := ⟨ba, oa + k, none⟩) hba).trans (hca k hkl)
     have o1 := ha.ok.get hkl
     have hba2 : ba < wr.heap.size := by omega
     obtain ⟨bb, ob, rfl, hbb, hcb⟩ := hb.rd.at_ hjl
     have c2 := (hbl.cell (p := ⟨bb, ob + j, none⟩) hbb).trans (hcb j hjl)
     have o2 := hb.ok.get hjl
     have o3 := hat.got hjl hkL
     have hbb2 : bb < wr.heap.size := by omega
     unfold lim at c1 c2
     clear hca hcb
     obtain ⟨p0, p1⟩ := prod_bd xs[k] ys[j] o1 o2
     have hmb := mul_bound o1 o2 o3 hq
     have HS := hid (hat.step hkl hjl hkL)
     have hP : (xs[k] : Int) * (ys[j] : Int) = ((xs[k] * ys[j] : Nat) : Int) := (Int.natCast_mul _ _).symm
     generalize xs[k] * ys[j] = P at *
     obtain ⟨m, hm⟩ : ∃ m, (P + L[k + j] + q) % 4294967296 = m := ⟨_, rfl⟩
     obtain ⟨u, hu⟩ : ∃ u, (P + L[k + j] + q) / 4294967296 = u := ⟨_, rfl⟩
     have hm1 : ((P : Int) + (L[k + j] : Int) + (q : Int)) % 4294967296 = (m : Int) := by omega
     have hu1 : ((P : Int) + (L[k + j] : Int) + (q : Int)) / 4294967296 = (u : Int) := by omega
     have hm2 : m < 4294967296 := by omega
     have hu2 : u < 4294967296 := by omega
     rw [hm, hu] at HS
     clear hm hu hat
     go_wp2
     go_region
     go_wp2
     go_roundw
     case rel => exact ⟨j + 1, u, L.set (k + j) m, by omega, by go_num, by rw [hu1], hu2, (by repeat (first | exact hbl | refine Below.drew ?_ | refine below_drewN ?_ _ | refine Below.setCell ?_ (by exact Nat.le_refl _) _ | refine Below.alloc ?_ (by simp; omega) _)), (by repeat (first | exact hL | refine LB.drew ?_ | refine LB.drewN ?_ _ | refine LB.set_ ?_ _ _ _ rfl)), HS.out⟩
     case measure => simp [intOf]; omega
    ·obtain rfl : j = ys.length := by omega
     have hkL : k + ys.length < L.length := by rw [hat.len hk hj]; omega
     have cell0 := hL.cell (k + ys.length) hkL
     have free0 := hL.free (k + ys.length)
     go_wp2
     go_roundw
     case rel => exact ⟨k + 1, L.set (k + ys.length) q, by omega, by go_num, (by repeat (first | exact hbl | refine Below.drew ?_ | refine below_drewN ?_ _ | refine Below.setCell ?_ (by exact Nat.le_refl _) _ | refine Below.alloc ?_ (by simp; omega) _)), hL.set_ _ _ _ rfl, hat.done ha.ok hb.ok hq hkl⟩
     case measure => simp [intOf]; omega
  ·obtain rfl : k = xs.length := by omega
   go_wp2_with (go_at_call 92; refine Rtrim_fin hL0 (by rw [hat0.last]; exact ok_mulL _ _ _ ha.ok hb.ok (Ok.rep _)) (hat0.len (Nat.le_refl _)) (by omega) (val xs * val ys) (by rw [hat0.last, val_mulL _ _ _ (by simp), val_rep, Nat.add_zero]) hbl0 ?_; rintro e w1 ⟨R, cc, rfl, hr1, hr2⟩)
   go_ret
   exact ⟨R, cc, rfl, hr1, hr2⟩
end Go.Proofs.Ytglailcfgcdagaa
/- The reference: the walk of half. Conditions: none. -/
namespace Go.Proofs.Ytglailcfgcdagaa
open Go.RowKit Big
end Go.Proofs.Ytglailcfgcdagaa
/- The reference: walks of bit, divide. Conditions: none. -/
namespace Go.Proofs.Ytglailcfgcdagaa
open Go.RowKit Big
theorem limbs_len2 {n m p : Nat} (hm : m < 4294967296) (hp : p < 4294967296) : (limbs (n * m + p)).length ≤ (limbs n).length + 1 := by
 rw [limbs_len_iff]
 have h := (limbs_len_iff n _).1 (Nat.le_refl _)
 rw [Nat.pow_succ]
 generalize 4294967296 ^ (limbs n).length = Q at *
 have h1 : (n + 1) * 4294967296 ≤ Q * 4294967296 := Nat.mul_le_mul_right _ h
 have h2 : n * m ≤ n * 4294967295 := Nat.mul_le_mul_left _ (by omega)
 omega
end Go.Proofs.Ytglailcfgcdagaa
/- The reference: walks of Neg, Cmp, Mul, Add. Conditions: none. -/
namespace Go.Proofs.Ytglailcfgcdagaa
open Go.RowKit Big
section
variable (A B : Option Addr) (c d n m : Nat) (w : World) (ha : Mg w A c (limbs n)) (hb : Mg w B d (limbs m)) (hs : (limbs n).length ≤ 1048576) (ht : (limbs m).length ≤ 1048576)
include ha hs
theorem Rsigned_n (neg : Bool) : Calls Try.prog 73 #[.bool neg, .slice A (limbs n).length c] w (RetZ w (sg neg n)) := by
 have _h := hs
 have := Rsigned_any neg A c _ w ha (by omega); rwa [val_limbs] at this
theorem Rlimit_n (neg : Bool) : Calls Try.prog 84 #[.bool neg, .slice A (limbs n).length c] w (RetF w (sg neg n)) := by
 have _h := hs
 have := Rlimit_any neg A c _ w ha (by omega); rwa [val_limbs] at this
include hb ht
theorem Rorder_n : Calls Try.prog 111 #[.slice A (limbs n).length c, .slice B (limbs m).length d] w (RetI w (ord n m)) := by
 have _h := hs
 have _h := ht
 have := Rorder_any A B c d _ _ w ha hb (by omega) (by omega); rw [val_limbs, val_limbs] at this; exact this.mono fun e w' ⟨h1, h2⟩ => ⟨h1, by rw [h2]; exact Below.refl _ _⟩
theorem Rplus_n : Calls Try.prog 110 #[.slice A (limbs n).length c, .slice B (limbs m).length d] w (RetN w (n + m)) := by
 have := Rplus_fr A B c d _ _ w ha hb hs ht; rw [val_limbs, val_limbs] at this; exact this.mono fun _ _ h => h.any
theorem Rtimes_n : Calls Try.prog 85 #[.slice A (limbs n).length c, .slice B (limbs m).length d] w (RetN w (n * m)) := by
 have := Rtimes_any A B c d _ _ w ha hb hs ht; rwa [val_limbs, val_limbs] at this
theorem Rminus_n (hle : m ≤ n) : Calls Try.prog 112 #[.slice A (limbs n).length c, .slice B (limbs m).length d] w (RetN w (n - m)) := by
 have _h := ht
 have := Rminus_fr A B c d _ _ w ha hb hs (limbs_mono hle) (by rw [val_limbs, val_limbs]; exact hle); rw [val_limbs, val_limbs] at this; exact this.mono fun _ _ h => h.any
end
set_option maxHeartbeats 1000000 in
theorem RNeg_ok (x : Int) (A : Option Addr) (c : Nat) (w : World) (ha : Mg w A c (limbs x.natAbs)) (fx : fits x) :
  Calls Try.prog 87 #[.agg #[.bool (decide ((x) < 0)), .slice A (limbs (Int.natAbs (x))).length c]] w (RetZ w (-x)) := by
 have HX := hid fun (w1 : World) (h1 : Below w.heap.size w w1) => RValid_t (ha.below h1) fx
 have HI := hid fun (w1 : World) (h1 : Below w.heap.size w w1) => by
  have h2 := Rsigned_n A c x.natAbs w1 (ha.below h1) (Nat.le_trans fx (by omega)) (!decide (x < 0))
  rw [sg_not] at h2
  exact h2
 clear ha fx
 generalize decide (x < 0) = bx at *
 generalize (limbs x.natAbs).length = lx at *
 go_enter Try.func87, Try.ntmps87
 go_wp2_with fail
 refine (HX.out _ (by repeat (first | assumption | exact Bv _ _ | refine Ba ?_ (by simp; try omega) _ | refine Bd ?_ | refine Bn ?_ _))).mono ?_
 rintro e w1 ⟨rfl, h1⟩
 obtain ⟨p1, p2, p3, p4, p5⟩ := box2_keep h1
 have b1 : Below w.heap.size w w1 := Below.trans (b := _) (by repeat (first | assumption | exact Bv _ _ | refine Ba ?_ (by simp; try omega) _ | refine Bd ?_ | refine Bn ?_ _)) (h1.mono (by simp; omega))
 go_wp2_with fail
 refine (HI.out _ b1).mono ?_
 rintro e w2 ⟨R, cc, rfl, hr, h2⟩
 have h12 := h1.trans (h2.mono h1.size)
 obtain ⟨q1, q2, q3, q4, q5⟩ := box2_keep h12
 have b2 := b1.trans (h2.mono b1.size)
 have k0 := q3 0
 have k1 := q3 1
 simp at k0 k1
 go_wp2
 refine bodyPost_ret (v := .agg #[.bool (decide ((-x) < 0)), .slice R (limbs (Int.natAbs (-x))).length cc]) ?_ rfl ?_
 ·simp [results, Try.results87, go_sem, k0, k1]
 ·exact fin_z hr b2 (by omega) k0 k1 _ _
set_option maxHeartbeats 1000000 in
theorem RMul_ok (x y : Int) (A B : Option Addr) (c d : Nat) (w : World) (ha : Mg w A c (limbs x.natAbs)) (hb : Mg w B d (limbs y.natAbs)) (fx : fits x) (fy : fits y) :
  Calls Try.prog 63 #[.agg #[.bool (decide ((x) < 0)), .slice A (limbs (Int.natAbs (x))).length c], .agg #[.bool (decide ((y) < 0)), .slice B (limbs (Int.natAbs (y))).length d]] w (RetF w (x * y)) := by
 have HX := hid fun (w1 : World) (h : Below w.heap.size w w1) => RValid_t (ha.below h) fx
 have HY := hid fun (w1 : World) (h : Below w.heap.size w w1) => RValid_t (hb.below h) fy
 have HM := hid fun (w1 : World) (h : Below w.heap.size w w1) => Rtimes_n A B c d x.natAbs y.natAbs w1 (ha.below h) (hb.below h) (Nat.le_trans fx (by omega)) (Nat.le_trans fy (by omega))
 have HS := hid fun (w1 : World) (A1 : Option Addr) (c1 : Nat) (h : Mg w1 A1 c1 (limbs (x.natAbs * y.natAbs))) => Rlimit_n A1 c1 _ w1 h (Nat.le_trans (limbs_mul_len fx fy) (by omega)) (decide (x < 0) != decide (y < 0))
 rw [sg_mul] at HS
 clear ha hb fx fy
 generalize hbx : decide (x < 0) = bx at *
 generalize hby : decide (y < 0) = by_ at *
 generalize hlx : (limbs x.natAbs).length = lx at *
 generalize hly : (limbs y.natAbs).length = ly at *
 have HH := hid (And.intro hbx (And.intro hby (And.intro hlx hly)))
 clear hbx hby hlx hly
 go_enter Try.func63, Try.ntmps63
 go_wp2_with fail
 refine (HX.out _ (by repeat (first | assumption | exact Bv _ _ | refine Ba ?_ (by simp; try omega) _ | refine Bd ?_ | refine Bn ?_ _))).mono ?_
 rintro e w1 ⟨rfl, h1⟩
 obtain ⟨p1, p2, p3, p4, p5, p6, p7⟩ := box3_keep h1
 have b1 : Below w.heap.size w w1 := Below.trans (b := _) (by repeat (first | assumption | exact Bv _ _ | refine Ba ?_ (by simp; try omega) _ | refine Bd ?_ | refine Bn ?_ _)) (h1.mono (by simp; omega))
 go_wp2_with fail
 refine (HY.out _ b1).mono ?_
 rintro e w2 ⟨rfl, h2⟩
 have h12 := h1.trans (h2.mono h1.size)
 obtain ⟨q1, q2, q3, q4, q5, q6, q7⟩ := box3_keep h12
 have b2 := b1.trans (h2.mono b1.size)
 go_wp2_with fail
 have b2d := b2.drew
 have h12d := h12.drew
 go_region_held3 (fun w' => w'.cell? ⟨w.heap.size, 0, none⟩ = some (.bool bx) ∧ w'.cell? ⟨w.heap.size, 1, none⟩ = some (.slice A lx c) ∧ w'.cell? ⟨w.heap.size + 1, 0, none⟩ = some (.bool by_) ∧ w'.cell? ⟨w.heap.size + 1, 1, none⟩ = some (.slice B ly d)) (first | exact ⟨(q1 0).trans rfl, (q1 1).trans rfl, (q3 0).trans rfl, (q3 1).trans rfl⟩ | exact ⟨(u1 0).trans rfl, (u1 1).trans rfl, (u3 0).trans rfl, (u3 1).trans rfl⟩ | exact ⟨(r1 0).trans rfl, (r1 1).trans rfl, (r3 0).trans rfl, (r3 1).trans rfl⟩ | (refine ⟨?_, ?_, ?_, ?_⟩ <;> (repeat rw [cell_far (by omega)]) <;> first | exact (r1 0).trans rfl | exact (r1 1).trans rfl | exact (r3 0).trans rfl | exact (r3 1).trans rfl)) (first | (go_at_call 85; refine (HM.out _ b2d).mono ?_; rintro e w3' ⟨R', cc', rfl, hr', h3'⟩; have h13' := h12d.trans (h3'.mono h12d.size); obtain ⟨u1, u2, u3, u4, u5, u6, u7⟩ := box3_keep h13') | (go_at_call 84; refine (HS.out _ _ _ hr').mono ?_; rintro e w3 ⟨R, cc, rfl, hr, h3''⟩; have h3 := h3'.trans (h3''.mono h3'.size); have h13 := h12d.trans (h3.mono h12d.size); obtain ⟨r1, r2, r3, r4, r5, r6, r7⟩ := box3_keep h13))
 have b3 := b2d.trans (h3.mono b2d.size)
 have k0 := r5 0
 have k1 := r5 1
 simp at k0 k1
 go_wp2
 refine bodyPost_ret (v := .tuple #[.agg #[.bool (decide (((fitE (x * y)).1) < 0)), .slice R (limbs (Int.natAbs ((fitE (x * y)).1))).length cc], .int .i64 (fitE (x * y)).2]) ?_ rfl ?_
 ·simp [results, Try.results63, go_sem, k0, k1]
 ·exact fin_ze hr b3 (by omega) k0 k1 _ _
set_option maxHeartbeats 1000000 in
theorem RAdd_ok (x y : Int) (A B : Option Addr) (c d : Nat) (w : World) (ha : Mg w A c (limbs x.natAbs)) (hb : Mg w B d (limbs y.natAbs)) (fx : fits x) (fy : fits y) :
  Calls Try.prog 86 #[.agg #[.bool (decide ((x) < 0)), .slice A (limbs (Int.natAbs (x))).length c], .agg #[.bool (decide ((y) < 0)), .slice B (limbs (Int.natAbs (y))).length d]] w (RetF w (x + y)) := by
 have HX := hid fun (w1 : World) (h : Below w.heap.size w w1) => RValid_t (ha.below h) fx
 have HY := hid fun (w1 : World) (h : Below w.heap.size w w1) => RValid_t (hb.below h) fy
 have l1 : (limbs x.natAbs).length ≤ 1048576 := Nat.le_trans fx (by omega)
 have l2 : (limbs y.natAbs).length ≤ 1048576 := Nat.le_trans fy (by omega)
 by_cases hs : decide (x < 0) = decide (y < 0)
 ·have HM := hid fun (w1 : World) (h : Below w.heap.size w w1) => Rplus_n A B c d x.natAbs y.natAbs w1 (ha.below h) (hb.below h) l1 l2
  have hz : sg (decide (x < 0)) (x.natAbs + y.natAbs) = x + y := by rw [← sg_same, sg_self, hs, sg_self]
  have hl : (limbs (x.natAbs + y.natAbs)).length ≤ 1048576 := by
   refine Nat.le_trans (limbs_mono (show x.natAbs + y.natAbs ≤ (x.natAbs + y.natAbs) * 1 + 0 by omega)) ?_
   rcases Nat.le_total x.natAbs y.natAbs with h | h
   ·refine Nat.le_trans (limbs_mono (show (x.natAbs + y.natAbs) * 1 + 0 ≤ y.natAbs * 2 + 0 by omega)) (Nat.le_trans (limbs_len2 (by omega) (by omega)) ?_)
    have : (limbs y.natAbs).length ≤ 512 := fy
    omega
   ·refine Nat.le_trans (limbs_mono (show (x.natAbs + y.natAbs) * 1 + 0 ≤ x.natAbs * 2 + 0 by omega)) (Nat.le_trans (limbs_len2 (by omega) (by omega)) ?_)
    have : (limbs x.natAbs).length ≤ 512 := fx
    omega
  have HS := hid fun (w1 : World) (A1 : Option Addr) (c1 : Nat) (h : Mg w1 A1 c1 (limbs (x.natAbs + y.natAbs))) => Rlimit_n A1 c1 _ w1 h hl (decide (x < 0))
  rw [hz] at HS
  have hs2 : (decide (x < 0) == decide (y < 0)) = true := by simpa using hs
  clear hs hz l1 l2 hl
  clear ha hb fx fy
  generalize hbx : decide (x < 0) = bx at *
  generalize hby : decide (y < 0) = by_ at *
  generalize hlx : (limbs x.natAbs).length = lx at *
  generalize hly : (limbs y.natAbs).length = ly at *
  have HH := hid (And.intro hbx (And.intro hby (And.intro hlx hly)))
  clear hbx hby hlx hly
  go_enter Try.func86, Try.ntmps86
  go_wp2_with fail
  refine (HX.out _ (by repeat (first | assumption | exact Bv _ _ | refine Ba ?_ (by simp; try omega) _ | refine Bd ?_ | refine Bn ?_ _))).mono ?_
  rintro e w1 ⟨rfl, h1⟩
  obtain ⟨p1, p2, p3, p4, p5, p6, p7⟩ := box3_keep h1
  have b1 : Below w.heap.size w w1 := Below.trans (b := _) (by repeat (first | assumption | exact Bv _ _ | refine Ba ?_ (by simp; try omega) _ | refine Bd ?_ | refine Bn ?_ _)) (h1.mono (by simp; omega))
  go_wp2_with fail
  refine (HY.out _ b1).mono ?_
  rintro e w2 ⟨rfl, h2⟩
  have h12 := h1.trans (h2.mono h1.size)
  obtain ⟨q1, q2, q3, q4, q5, q6, q7⟩ := box3_keep h12
  have b2 := b1.trans (h2.mono b1.size)
  go_wp2_with fail
  have b2d := b2.drew
  have h12d := h12.drew
  go_region_held3 (fun w' => w'.cell? ⟨w.heap.size, 0, none⟩ = some (.bool bx) ∧ w'.cell? ⟨w.heap.size, 1, none⟩ = some (.slice A lx c) ∧ w'.cell? ⟨w.heap.size + 1, 0, none⟩ = some (.bool by_) ∧ w'.cell? ⟨w.heap.size + 1, 1, none⟩ = some (.slice B ly d)) (first | exact ⟨(q1 0).trans rfl, (q1 1).trans rfl, (q3 0).trans rfl, (q3 1).trans rfl⟩ | exact ⟨(u1 0).trans rfl, (u1 1).trans rfl, (u3 0).trans rfl, (u3 1).trans rfl⟩ | exact ⟨(r1 0).trans rfl, (r1 1).trans rfl, (r3 0).trans rfl, (r3 1).trans rfl⟩ | (refine ⟨?_, ?_, ?_, ?_⟩ <;> (repeat rw [cell_far (by omega)]) <;> first | exact (r1 0).trans rfl | exact (r1 1).trans rfl | exact (r3 0).trans rfl | exact (r3 1).trans rfl)) (first | (go_at_call 110; refine (HM.out _ b2d).mono ?_; rintro e w3' ⟨R', cc', rfl, hr', h3'⟩; have h13' := h12d.trans (h3'.mono h12d.size); obtain ⟨u1, u2, u3, u4, u5, u6, u7⟩ := box3_keep h13') | (go_at_call 84; refine (HS.out _ _ _ hr').mono ?_; rintro e w3 ⟨R, cc, rfl, hr, h3''⟩; have h3 := h3'.trans (h3''.mono h3'.size); have h13 := h12d.trans (h3.mono h12d.size); obtain ⟨r1, r2, r3, r4, r5, r6, r7⟩ := box3_keep h13))
  have b3 := b2d.trans (h3.mono b2d.size)
  have k0 := r5 0
  have k1 := r5 1
  simp at k0 k1
  go_wp2
  refine bodyPost_ret (v := .tuple #[.agg #[.bool (decide (((fitE (x + y)).1) < 0)), .slice R (limbs (Int.natAbs ((fitE (x + y)).1))).length cc], .int .i64 (fitE (x + y)).2]) ?_ rfl ?_
  ·simp [results, Try.results86, go_sem, k0, k1]
  ·exact fin_ze hr b3 (by omega) k0 k1 _ _
 ·have hs2 : (decide (x < 0) == decide (y < 0)) = false := by simpa using hs
  have HO := hid fun (w1 : World) (h : Below w.heap.size w w1) => Rorder_n A B c d x.natAbs y.natAbs w1 (ha.below h) (hb.below h) l1 l2
  by_cases hl : x.natAbs < y.natAbs
  ·have HM := hid fun (w1 : World) (h : Below w.heap.size w w1) => Rminus_n B A d c y.natAbs x.natAbs w1 (hb.below h) (ha.below h) l2 l1 (by omega)
   have hz := sg_lt _ _ _ _ hs hl
   rw [sg_self, sg_self] at hz
   have HS := hid fun (w1 : World) (A1 : Option Addr) (c1 : Nat) (h : Mg w1 A1 c1 (limbs (y.natAbs - x.natAbs))) => Rlimit_n A1 c1 _ w1 h (Nat.le_trans (limbs_mono (by omega)) l2) (decide (y < 0))
   rw [← hz] at HS
   rw [ord_lt hl] at HO
   clear hs hz l1 l2 hl
   clear ha hb fx fy
   generalize hbx : decide (x < 0) = bx at *
   generalize hby : decide (y < 0) = by_ at *
   generalize hlx : (limbs x.natAbs).length = lx at *
   generalize hly : (limbs y.natAbs).length = ly at *
   have HH := hid (And.intro hbx (And.intro hby (And.intro hlx hly)))
   clear hbx hby hlx hly
   go_enter Try.func86, Try.ntmps86
   go_wp2_with fail
   refine (HX.out _ (by repeat (first | assumption | exact Bv _ _ | refine Ba ?_ (by simp; try omega) _ | refine Bd ?_ | refine Bn ?_ _))).mono ?_
   rintro e w1 ⟨rfl, h1⟩
   obtain ⟨p1, p2, p3, p4, p5, p6, p7⟩ := box3_keep h1
   have b1 : Below w.heap.size w w1 := Below.trans (b := _) (by repeat (first | assumption | exact Bv _ _ | refine Ba ?_ (by simp; try omega) _ | refine Bd ?_ | refine Bn ?_ _)) (h1.mono (by simp; omega))
   go_wp2_with fail
   refine (HY.out _ b1).mono ?_
   rintro e w2 ⟨rfl, h2⟩
   have h12 := h1.trans (h2.mono h1.size)
   obtain ⟨q1, q2, q3, q4, q5, q6, q7⟩ := box3_keep h12
   have b2 := b1.trans (h2.mono b1.size)
   go_wp2_with fail
   refine (HO.out _ b2).mono ?_
   rintro e w2o ⟨rfl, h2o⟩
   have h12 := h12.trans (h2o.mono h12.size)
   obtain ⟨q1, q2, q3, q4, q5, q6, q7⟩ := box3_keep h12
   have b2 := b2.trans (h2o.mono b2.size)
   go_wp2_with fail
   have b2d := b2.drew
   have h12d := h12.drew
   go_region_held3 (fun w' => w'.cell? ⟨w.heap.size, 0, none⟩ = some (.bool bx) ∧ w'.cell? ⟨w.heap.size, 1, none⟩ = some (.slice A lx c) ∧ w'.cell? ⟨w.heap.size + 1, 0, none⟩ = some (.bool by_) ∧ w'.cell? ⟨w.heap.size + 1, 1, none⟩ = some (.slice B ly d)) (first | exact ⟨(q1 0).trans rfl, (q1 1).trans rfl, (q3 0).trans rfl, (q3 1).trans rfl⟩ | exact ⟨(u1 0).trans rfl, (u1 1).trans rfl, (u3 0).trans rfl, (u3 1).trans rfl⟩ | exact ⟨(r1 0).trans rfl, (r1 1).trans rfl, (r3 0).trans rfl, (r3 1).trans rfl⟩ | (refine ⟨?_, ?_, ?_, ?_⟩ <;> (repeat rw [cell_far (by omega)]) <;> first | exact (r1 0).trans rfl | exact (r1 1).trans rfl | exact (r3 0).trans rfl | exact (r3 1).trans rfl)) (first | (go_at_call 112; refine (HM.out _ b2d).mono ?_; rintro e w3' ⟨R', cc', rfl, hr', h3'⟩; have h13' := h12d.trans (h3'.mono h12d.size); obtain ⟨u1, u2, u3, u4, u5, u6, u7⟩ := box3_keep h13') | (go_at_call 84; refine (HS.out _ _ _ hr').mono ?_; rintro e w3 ⟨R, cc, rfl, hr, h3''⟩; have h3 := h3'.trans (h3''.mono h3'.size); have h13 := h12d.trans (h3.mono h12d.size); obtain ⟨r1, r2, r3, r4, r5, r6, r7⟩ := box3_keep h13))
   have b3 := b2d.trans (h3.mono b2d.size)
   have k0 := r5 0
   have k1 := r5 1
   simp at k0 k1
   go_wp2
   refine bodyPost_ret (v := .tuple #[.agg #[.bool (decide (((fitE (x + y)).1) < 0)), .slice R (limbs (Int.natAbs ((fitE (x + y)).1))).length cc], .int .i64 (fitE (x + y)).2]) ?_ rfl ?_
   ·simp [results, Try.results86, go_sem, k0, k1]
   ·exact fin_ze hr b3 (by omega) k0 k1 _ _
  ·have HM := hid fun (w1 : World) (h : Below w.heap.size w w1) => Rminus_n A B c d x.natAbs y.natAbs w1 (ha.below h) (hb.below h) l1 l2 (by omega)
   have hz := sg_ge _ _ _ _ hs (show y.natAbs ≤ x.natAbs by omega)
   rw [sg_self, sg_self] at hz
   have HS := hid fun (w1 : World) (A1 : Option Addr) (c1 : Nat) (h : Mg w1 A1 c1 (limbs (x.natAbs - y.natAbs))) => Rlimit_n A1 c1 _ w1 h (Nat.le_trans (limbs_mono (by omega)) l1) (decide (x < 0))
   rw [← hz] at HS
   have ho : 0 ≤ ord x.natAbs y.natAbs := by unfold ord; rw [if_neg hl]; split <;> omega
   generalize ord x.natAbs y.natAbs = ov at *
   clear hs hz l1 l2 hl
   clear ha hb fx fy
   generalize hbx : decide (x < 0) = bx at *
   generalize hby : decide (y < 0) = by_ at *
   generalize hlx : (limbs x.natAbs).length = lx at *
   generalize hly : (limbs y.natAbs).length = ly at *
   have HH := hid (And.intro hbx (And.intro hby (And.intro hlx hly)))
   clear hbx hby hlx hly
   go_enter Try.func86, Try.ntmps86
   go_wp2_with fail
   refine (HX.out _ (by repeat (first | assumption | exact Bv _ _ | refine Ba ?_ (by simp; try omega) _ | refine Bd ?_ | refine Bn ?_ _))).mono ?_
   rintro e w1 ⟨rfl, h1⟩
   obtain ⟨p1, p2, p3, p4, p5, p6, p7⟩ := box3_keep h1
   have b1 : Below w.heap.size w w1 := Below.trans (b := _) (by repeat (first | assumption | exact Bv _ _ | refine Ba ?_ (by simp; try omega) _ | refine Bd ?_ | refine Bn ?_ _)) (h1.mono (by simp; omega))
   go_wp2_with fail
   refine (HY.out _ b1).mono ?_
   rintro e w2 ⟨rfl, h2⟩
   have h12 := h1.trans (h2.mono h1.size)
   obtain ⟨q1, q2, q3, q4, q5, q6, q7⟩ := box3_keep h12
   have b2 := b1.trans (h2.mono b1.size)
   go_wp2_with fail
   refine (HO.out _ b2).mono ?_
   rintro e w2o ⟨rfl, h2o⟩
   have h12 := h12.trans (h2o.mono h12.size)
   obtain ⟨q1, q2, q3, q4, q5, q6, q7⟩ := box3_keep h12
   have b2 := b2.trans (h2o.mono b2.size)
   go_wp2_with fail
   have b2d := b2.drew
   have h12d := h12.drew
   go_region_held3 (fun w' => w'.cell? ⟨w.heap.size, 0, none⟩ = some (.bool bx) ∧ w'.cell? ⟨w.heap.size, 1, none⟩ = some (.slice A lx c) ∧ w'.cell? ⟨w.heap.size + 1, 0, none⟩ = some (.bool by_) ∧ w'.cell? ⟨w.heap.size + 1, 1, none⟩ = some (.slice B ly d)) (first | exact ⟨(q1 0).trans rfl, (q1 1).trans rfl, (q3 0).trans rfl, (q3 1).trans rfl⟩ | exact ⟨(u1 0).trans rfl, (u1 1).trans rfl, (u3 0).trans rfl, (u3 1).trans rfl⟩ | exact ⟨(r1 0).trans rfl, (r1 1).trans rfl, (r3 0).trans rfl, (r3 1).trans rfl⟩ | (refine ⟨?_, ?_, ?_, ?_⟩ <;> (repeat rw [cell_far (by omega)]) <;> first | exact (r1 0).trans rfl | exact (r1 1).trans rfl | exact (r3 0).trans rfl | exact (r3 1).trans rfl)) (first | (go_at_call 112; refine (HM.out _ b2d).mono ?_; rintro e w3' ⟨R', cc', rfl, hr', h3'⟩; have h13' := h12d.trans (h3'.mono h12d.size); obtain ⟨u1, u2, u3, u4, u5, u6, u7⟩ := box3_keep h13') | (go_at_call 84; refine (HS.out _ _ _ hr').mono ?_; rintro e w3 ⟨R, cc, rfl, hr, h3''⟩; have h3 := h3'.trans (h3''.mono h3'.size); have h13 := h12d.trans (h3.mono h12d.size); obtain ⟨r1, r2, r3, r4, r5, r6, r7⟩ := box3_keep h13))
   have b3 := b2d.trans (h3.mono b2d.size)
   have k0 := r5 0
   have k1 := r5 1
   simp at k0 k1
   go_wp2
   refine bodyPost_ret (v := .tuple #[.agg #[.bool (decide (((fitE (x + y)).1) < 0)), .slice R (limbs (Int.natAbs ((fitE (x + y)).1))).length cc], .int .i64 (fitE (x + y)).2]) ?_ rfl ?_
   ·simp [results, Try.results86, go_sem, k0, k1]
   ·exact fin_ze hr b3 (by omega) k0 k1 _ _
end Go.Proofs.Ytglailcfgcdagaa
