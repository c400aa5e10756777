/- The reference: walks of Valid, limb. Conditions: none. -/
import Derived.Test.YtfdmlfpldgobjaaGreatDoorZYE
import Derived.Test.YtfdmlfpldgobjaaGreatDoorZNtA
set_option linter.unusedVariables false
set_option linter.unusedSimpArgs false
namespace Go.Proofs.YtfdmlfpldgobjaaGreatDoor
open Go.RowKit Big
set_option maxHeartbeats 400000 in
theorem RValid_any (neg : Bool) (A : Option Addr) (c : Nat) (xs : List Nat) (w : World) (ha : Mg w A c xs) :
  Calls Tryz.prog 20 #[.agg #[.bool neg, .slice A xs.length c]] w fun e w' => e = .returned (.bool (validB neg xs)) ∧ Below w.heap.size w w' := by
 by_cases h0 : xs = []
 ·subst h0
  have hv : validB neg [] = !neg := by simp [validB]
  rw [hv]
  clear ha hv
  go_enter Tryz.func20, Tryz.ntmps20
  go_wp2
  go_ret
  exact ⟨by simp, (Below.refl _ _).alloc (Nat.le_refl _) _⟩
 ·have hl0 : 0 < xs.length := List.length_pos_iff.2 h0
  have hl1 : ((xs.length : Int) == 0) = false := by rw [beq_eq_false_iff_ne]; omega
  have hv : validB neg xs = (decide (xs.length ≤ 512) && decide (xs.getLast? ≠ some 0)) := by unfold validB; rw [if_neg h0]
  have hm := ha.max
  have hm2 := ha.cap
  by_cases h5 : xs.length ≤ 512
  ·obtain ⟨b, o, rfl, hB, hc⟩ := ha.rd.at_ (k := xs.length - 1) (by omega)
   have c1 := hc (xs.length - 1) (by omega)
   unfold lim at c1
   have hlast : xs.getLast? = some xs[xs.length - 1] := by rw [List.getLast?_eq_getElem?, List.getElem?_eq_getElem (by omega)]
   rw [hlast] at hv
   generalize xs[xs.length - 1] = t at *
   by_cases ht : t = 0
   ·have hv2 : validB neg xs = false := by rw [hv]; simp [ht]
    rw [hv2]
    subst ht
    clear hc hlast hv hv2 h0 ha
    go_enter Tryz.func20, Tryz.ntmps20
    go_wp2
    go_ret
    exact ⟨rfl, (Below.refl _ _).alloc (Nat.le_refl _) _⟩
   ·have hv2 : validB neg xs = true := by rw [hv]; simp [ht, h5]
    have ht1 : ((t : Int) != 0) = true := by rw [bne_iff_ne]; omega
    rw [hv2]
    clear hc hlast hv hv2 h0 ha ht
    go_enter Tryz.func20, Tryz.ntmps20
    go_wp2
    go_ret
    exact ⟨rfl, (Below.refl _ _).alloc (Nat.le_refl _) _⟩
  ·have hv2 : validB neg xs = false := by rw [hv]; simp [h5]
   rw [hv2]
   clear hv hv2 h0 ha
   go_enter Tryz.func20, Tryz.ntmps20
   go_wp2
   go_ret
   exact ⟨rfl, (Below.refl _ _).alloc (Nat.le_refl _) _⟩
end Go.Proofs.YtfdmlfpldgobjaaGreatDoor
/- The reference: walks of Trim, signed, limit. Conditions: none. -/
namespace Go.Proofs.YtfdmlfpldgobjaaGreatDoor
open Go.RowKit Big
theorem own_lit (w : World) (e : TypeId) : (w.alloc (.cells #[] e)).ownsRow w.heap.size e 1 (.slice (some ⟨w.heap.size, 0, none⟩) 0 0) 0 [] :=
 ⟨rfl, .inr ⟨w.heap.size, 0, #[], rfl, Nat.le_refl _, by rw [heap_alloc_new], Nat.le_refl _, by unfold maxLen; omega, rfl, rfl⟩⟩
theorem RetZE.alloc {w w' : World} {z err : Int} {e : Ending} (h : RetZE w z err e w') (o : Obj) : RetZE w z err e (w'.alloc o) := by
 obtain ⟨A, c, h1, h2, h3⟩ := h
 exact ⟨A, c, h1, h2.alloc, h3.alloc h3.size _⟩
theorem RetZ.alloc {w w' : World} {z : Int} {e : Ending} (h : RetZ w z e w') (o : Obj) : RetZ w z e (w'.alloc o) := by
 obtain ⟨A, c, h1, h2, h3⟩ := h
 exact ⟨A, c, h1, h2.alloc, h3.alloc h3.size _⟩
/-- limbs in new memory -/
def RetNF (w : World) (n : Nat) (e : Ending) (w' : World) : Prop :=
 ∃ A c, e = .returned (.slice A (limbs n).length c) ∧ Mg w' A c (limbs n) ∧ Below w.heap.size w w' ∧ Hid (∀ p, A = some p → w.heap.size ≤ p.block)
theorem RetNF.any {w w' : World} {n : Nat} {e : Ending} (h : RetNF w n e w') : RetN w n e w' := by
 obtain ⟨A, c, h1, h2, h3, _⟩ := h; exact ⟨A, c, h1, h2, h3⟩
theorem own_fresh {w : World} {base : Nat} {t : TypeId} {A : Option Addr} {n c m : Nat} {xs : List Value} (h : w.ownsRow base t 1 (.slice A n c) m xs) : ∀ p, A = some p → base ≤ p.block := by
 intro p hp
 subst hp
 rcases h.2 with ⟨h1, _⟩ | ⟨g, cap, cur, h1, hbg, _⟩
 ·cases h1
 ·injection h1 with h1
  injection h1 with h1
  subst h1
  exact hbg
/-- a copy of the first k limbs -/
theorem fin_copy {w w' : World} {A : Option Addr} {c : Nat} {xs : List Nat} {v' : Value} (h : Mg w A c xs) (k : Nat) (hk : k ≤ xs.length) (hz : ∀ i, k ≤ i → (hi : i < xs.length) → xs[i] = 0) (hl : k = 0 ∨ ∃ h : k - 1 < xs.length, xs[k - 1] ≠ 0)
  (hown : w'.ownsRow w.heap.size 61 1 v' (xs.take k).length ((xs.take k).map lim)) (hb : Below w.heap.size w w') : RetNF w (val xs) (.returned v') w' := by
 have e := limbs_trim h.ok k hk hz hl
 obtain ⟨A', c', rfl, h1, h2, h3⟩ := own_rd hown
 have hf := own_fresh hown
 rw [e] at h1 h3 ⊢
 exact ⟨A', c', rfl, ⟨h1, h2, ok_limbs _, h3⟩, hb, hf⟩
set_option maxHeartbeats 400000 in
theorem RTrim_fr (A : Option Addr) (c : Nat) (xs : List Nat) (w : World) (h : Mg w A c xs) (hs : xs.length ≤ 1073741824) :
  Calls Tryz.prog 115 #[.slice A xs.length c] w (RetNF w (val xs)) := by
 have hcap := h.cap
 have hmax := h.max
 go_enter Tryz.func115, Tryz.ntmps115
 go_wp2
 go_loop [3] (fun i => ∃ k : Nat, k ≤ xs.length ∧ i = .int .i64 k ∧ Hid (∀ i, k ≤ i → (hi : i < xs.length) → xs[i] = 0)) (fun i => (intOf i).toNat)
 case atStart => exact ⟨xs.length, Nat.le_refl _, rfl, fun i h1 h2 => absurd h1 (by omega)⟩
 case round =>
  obtain ⟨k, hk, rfl, hz⟩ := hrel
  by_cases h0 : 0 < k
  ·have hk1 : k - 1 < xs.length := by omega
   obtain ⟨b, o, rfl, hb, hc⟩ := h.rd.at_ hk1
   have c1 := hc (k - 1) hk1
   unfold lim at c1
   clear hc
   by_cases he : xs[k - 1] = 0
   ·have he1 : ((xs[k - 1] : Int) == 0) = true := by simp [he]
    have HE := hid he
    clear he
    go_wp2
    go_round
    case rel => exact ⟨k - 1, by omega, by go_num, fun i h1 h2 => by
     by_cases hj : i = k - 1
     ·subst hj; exact HE.out
     ·exact hz.out i (by omega) h2⟩
    case measure => simp [intOf]; omega
   ·have he1 : ((xs[k - 1] : Int) == 0) = false := by simp; omega
    have HE := hid he
    clear he
    have hr := (h.rd.take k).below ((Below.refl w.heap.size w).alloc (Nat.le_refl _) (.cells #[] 61))
    go_wp2_with (at_builtin; refine wpList_app rfl (.tmp 18) (.tmp 21) 22 rfl 61 (.int .u32 0) 4 Tryz.underlying22 info32 rfl w.heap.size lim (fun _ => rfl) _ [] rfl (own_lit w _) _ c (xs.take k) (by rw [List.length_take, Nat.min_eq_left hk]; rfl) hr (by simp; omega) (by simp; omega) (by simp) ?_; intro v' w2 hown hgr hwh)
    go_ret
    exact fin_copy h k hk hz.out (.inr ⟨hk1, HE.out⟩) hown (((Below.refl _ _).alloc (Nat.le_refl _) _).trans (below_app (own_lit w _) hgr (by simp)))
  ·have hk0 : k = 0 := by omega
   subst hk0
   have hr := (Rd.nil (f := lim) (w.alloc (.cells #[] 61)) A)
   go_wp2_with (at_builtin; refine wpList_app rfl (.tmp 18) (.tmp 21) 22 rfl 61 (.int .u32 0) 4 Tryz.underlying22 info32 rfl w.heap.size lim (fun _ => rfl) _ [] rfl (own_lit w _) _ c [] rfl hr (by simp) (by simp) (by simp) ?_; intro v' w2 hown hgr hwh)
   go_ret
   exact fin_copy h 0 hk hz.out (.inl rfl) hown (((Below.refl _ _).alloc (Nat.le_refl _) _).trans (below_app (own_lit w _) hgr (by simp)))
theorem RTrim_any (A : Option Addr) (c : Nat) (xs : List Nat) (w : World) (h : Mg w A c xs) (hs : xs.length ≤ 1073741824) :
  Calls Tryz.prog 115 #[.slice A xs.length c] w (RetN w (val xs)) := (RTrim_fr A c xs w h hs).mono fun _ _ h => h.any
set_option maxHeartbeats 400000 in
theorem Rsigned_any (neg : Bool) (A : Option Addr) (c : Nat) (xs : List Nat) (w : World) (ha : Mg w A c xs) (hs : xs.length ≤ 1073741824) :
  Calls Tryz.prog 103 #[.bool neg, .slice A xs.length c] w (RetZ w (sg neg (val xs))) := by
 have HT := hid fun (w1 : World) (h : Below w.heap.size w w1) => RTrim_any A c xs w1 (ha.below h) hs
 clear ha hs
 generalize val xs = n at *
 generalize xs.length = lx at *
 go_enter Tryz.func103, Tryz.ntmps103
 go_wp2_with fail
 refine (HT.out _ (by repeat (first | assumption | exact Below.refl _ _ | refine Below.alloc ?_ (by simp; try omega) _ | refine Below.drew ?_ | refine below_drewN ?_ _))).mono ?_
 rintro e w1 ⟨R, cc, rfl, hr, h1⟩
 obtain ⟨p1, p2, p3⟩ := box_keep h1
 have b1 : Below w.heap.size w w1 := Below.trans (b := _) (by repeat (first | assumption | exact Below.refl _ _ | refine Below.alloc ?_ (by simp; try omega) _ | refine Below.drew ?_ | refine below_drewN ?_ _)) (h1.mono (by simp))
 have k0 := p1 0
 have k1 := p1 1
 simp at k0 k1
 by_cases h0 : n = 0
 ·subst h0
  rw [limbs_zero] at *
  simp only [List.length_nil]
  cases neg
  all_goals
   go_wp2
   refine bodyPost_ret (v := .agg #[.bool false, .slice R 0 cc]) ?_ rfl ?_
   ·simp [results, Tryz.results103, go_sem, k0, k1]
   ·rw [sg_zero]
    exact ⟨R, cc, by simp [limbs_zero], by simpa [limbs_zero] using (Mg.setS (by rw [cell_set_ne (by omega)]; exact k1) (Mg.setB k0 hr)), below_set (below_set b1 (by omega) _ _) (by omega) _ _⟩
 ·have hl : 0 < (limbs n).length := by rw [limbs_pos h0]; simp
  have hsn := hid (And.intro (sg_neg neg n h0) (natAbs_sg neg n))
  clear h0
  cases neg
  ·go_wp2
   refine bodyPost_ret (v := .agg #[.bool false, .slice R (limbs n).length cc]) ?_ rfl ?_
   ·simp [results, Tryz.results103, go_sem, k0, k1]
   ·exact ⟨R, cc, by rw [hsn.out.1, hsn.out.2], by rw [hsn.out.2]; exact (Mg.setS (by rw [cell_set_ne (by omega)]; exact k1) (Mg.setB k0 hr)), below_set (below_set b1 (by omega) _ _) (by omega) _ _⟩
  ·go_wp2
   refine bodyPost_ret (v := .agg #[.bool true, .slice R (limbs n).length cc]) ?_ rfl ?_
   ·simp [results, Tryz.results103, go_sem, k0, k1]
   ·exact ⟨R, cc, by rw [hsn.out.1, hsn.out.2], by rw [hsn.out.2]; exact (Mg.setS (by rw [cell_set_ne (by omega)]; exact k1) (Mg.setB k0 hr)), below_set (below_set b1 (by omega) _ _) (by omega) _ _⟩
end Go.Proofs.YtfdmlfpldgobjaaGreatDoor
/- The reference: walks of order, plus, minus. Conditions: none. -/
namespace Go.Proofs.YtfdmlfpldgobjaaGreatDoor
open Go.RowKit Big
/-- behind one append of a new limb -/
theorem below_app1 {w wr w5 : World} {v : Value} {D : List Nat} {m : Nat} (hown : wr.ownsRow w.heap.size 61 1 v D.length (D.map lim)) (hbl : Below w.heap.size w wr)
  (hgr : (wr.alloc (.cells #[.int .u32 (m : Int)] 61)).grownBy w5 v.ownBlock) : Below w.heap.size w w5 :=
 (hbl.alloc hbl.size _).trans (below_app (own_below hown ((Below.refl _ _).alloc (Nat.le_refl _) (.cells #[.int .u32 (m : Int)] 61))) hgr (by have := hbl.size; simp; omega))
end Go.Proofs.YtfdmlfpldgobjaaGreatDoor
/- The reference: walks of times, half. Conditions: none. -/
namespace Go.Proofs.YtfdmlfpldgobjaaGreatDoor
open Go.RowKit Big
end Go.Proofs.YtfdmlfpldgobjaaGreatDoor
/- The reference: the walk of half. Conditions: none. -/
namespace Go.Proofs.YtfdmlfpldgobjaaGreatDoor
open Go.RowKit Big
end Go.Proofs.YtfdmlfpldgobjaaGreatDoor
/- The reference: walks of bit, divide. Conditions: none. -/
namespace Go.Proofs.YtfdmlfpldgobjaaGreatDoor
open Go.RowKit Big
theorem limbs_len2 {n m p : Nat} (hm : m < 4294967296) (hp : p < 4294967296) : (limbs (n * m + p)).length ≤ (limbs n).length + 1 := by
 rw [limbs_len_iff]
 have h := (limbs_len_iff n _).1 (Nat.le_refl _)
 rw [Nat.pow_succ]
 generalize 4294967296 ^ (limbs n).length = Q at *
 have h1 : (n + 1) * 4294967296 ≤ Q * 4294967296 := Nat.mul_le_mul_right _ h
 have h2 : n * m ≤ n * 4294967295 := Nat.mul_le_mul_left _ (by omega)
 omega
end Go.Proofs.YtfdmlfpldgobjaaGreatDoor
/- The reference: walks of Neg, Cmp, Mul, Add. Conditions: none. -/
namespace Go.Proofs.YtfdmlfpldgobjaaGreatDoor
open Go.RowKit Big
section
variable (A B : Option Addr) (c d n m : Nat) (w : World) (ha : Mg w A c (limbs n)) (hb : Mg w B d (limbs m)) (hs : (limbs n).length ≤ 1048576) (ht : (limbs m).length ≤ 1048576)
include ha hs
include hb ht
end
end Go.Proofs.YtfdmlfpldgobjaaGreatDoor
/- The reference: walks of Sub, GCD. Conditions: none. -/
namespace Go.Proofs.YtfdmlfpldgobjaaGreatDoor
open Go.RowKit Big
theorem two_pow_B (k : Nat) : (4294967296 : Nat) ^ k = 2 ^ (32 * k) := by rw [show (4294967296 : Nat) = 2 ^ 32 by decide, ← Nat.pow_mul]
end Go.Proofs.YtfdmlfpldgobjaaGreatDoor
/- The reference: the walk of DivMod. Conditions: none. -/
namespace Go.Proofs.YtfdmlfpldgobjaaGreatDoor
open Go.RowKit Big
end Go.Proofs.YtfdmlfpldgobjaaGreatDoor
/- Package bigint and the reference give the same results. Conditions: none. -/
namespace Go.Proofs.YtfdmlfpldgobjaaGreatDoor
open Go.RowKit Big
theorem RetZE.g {w w' : World} {z err : Int} {b : Bool} {n : Nat} {L : List Nat} {e : Ending} (h : RetZE w z err e w') (I : Iz z b n L) : GZE w b n L err e w' := by
 obtain ⟨rfl, rfl, rfl⟩ := I; exact h
theorem RetZ.g {w w' : World} {z : Int} {b : Bool} {n : Nat} {L : List Nat} {e : Ending} (h : RetZ w z e w') (I : Iz z b n L) : GZ w b n L e w' := by
 obtain ⟨rfl, rfl, rfl⟩ := I; exact h
theorem RetDM.g {w w' : World} {z r err : Int} {b b' : Bool} {n n' : Nat} {L L' : List Nat} {e : Ending} (h : RetDM w z r err e w') (I : Iz z b n L) (I' : Iz r b' n' L') : GDM w b n L b' n' L' err e w' := by
 obtain ⟨rfl, rfl, rfl⟩ := I; obtain ⟨rfl, rfl, rfl⟩ := I'; exact h
end Go.Proofs.YtfdmlfpldgobjaaGreatDoor
