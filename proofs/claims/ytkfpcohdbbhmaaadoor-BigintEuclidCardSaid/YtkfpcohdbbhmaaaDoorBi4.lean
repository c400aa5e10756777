/- Magnitudes: walks of scale, multiply. Conditions: none. -/
import Derived.Test.YtkfpcohdbbhmaaaDoorBi3
namespace Go.Proofs.YtkfpcohdbbhmaaaDoor
set_option linter.unusedVariables false
set_option linter.unusedSimpArgs false
open Go.RowKit Big

/-- what is left after the last store: trim -/
theorem trim_fin {L : List Nat} {w wr : World} {n : Nat} {R : Ending → World → Prop} (hL : LB wr w.heap.size L) (ho : Ok L) (hl : L.length = n) (hn : n ≤ 4294967296) (v : Nat) (hv : val L = v) (hbl : Below w.heap.size w wr) (hR : ∀ e w', RetN w v e w' → R e w') :
    Calls Tryd.prog 86 #[.slice (some ⟨w.heap.size, 0, none⟩) n n] wr R := by
  subst hl; subst hv
  have hm := hL.mg ho (by omega)
  refine (trim_any _ _ _ _ hm).mono fun e' w' h => hR _ _ ?_
  obtain ⟨A', c', h1, h2, h3⟩ := h
  exact ⟨A', c', h1, h2, hbl.trans (h3.mono hbl.size)⟩

theorem trim_finA {L : List Nat} {w wr : World} {n : Nat} {R : Ending → World → Prop} (hL : LB wr w.heap.size L) (ho : Ok L) (hl : L.length = n) (hn : n ≤ 4294967296) (v : Nat) (hv : val L = v) (hbl : Below w.heap.size w wr) (hR : ∀ e w', RetNA w (some ⟨w.heap.size, 0, none⟩) v e w' → R e w') :
    Calls Tryd.prog 86 #[.slice (some ⟨w.heap.size, 0, none⟩) n n] wr R := by
  subst hl; subst hv
  have hm := hL.mg ho (by omega)
  refine (trim_at _ _ _ _ hm).mono fun e' w' h => hR _ _ ?_
  obtain ⟨c', h1, h2, h3⟩ := h
  exact ⟨c', h1, h2, hbl.trans (h3.mono hbl.size)⟩

/-- bounds on a product of limbs, as the walk asks them -/
theorem prod_bd (x y : Nat) (hx : x < 4294967296) (hy : y < 4294967296) : 0 ≤ (x : Int) * (y : Int) ∧ (x : Int) * (y : Int) ≤ 18446744065119617025 := by
  have h1 : x * y ≤ 4294967295 * 4294967295 := Nat.mul_le_mul (by omega) (by omega)
  rw [← Int.natCast_mul]
  omega

theorem muladd (x y p q : Nat) : ((x : Int) * (y : Int) + p + q) = ((x * y + p + q : Nat) : Int) := by push_cast; rfl
theorem muladd2 (x y q : Nat) : ((x : Int) * (y : Int) + q) = ((x * y + q : Nat) : Int) := by push_cast; rfl

def ScaleAt (m p : Nat) (xs : List Nat) (k q : Nat) (L : List Nat) : Prop :=
  ∃ D : List Nat, D.length = k ∧ L = D ++ List.replicate (xs.length + 1 - k) 0 ∧ scaleL m xs p = D ++ scaleL m (xs.drop k) q
theorem ScaleAt.len {m p : Nat} {xs L : List Nat} {k q : Nat} (h : ScaleAt m p xs k q L) (hk : k ≤ xs.length + 1) : L.length = xs.length + 1 := by
  obtain ⟨D, h1, h2, _⟩ := h; subst h2; simp; omega
theorem ScaleAt.start (m p : Nat) (xs : List Nat) : ScaleAt m p xs 0 p (List.replicate (xs.length + 1) 0) := ⟨[], rfl, by simp, by simp⟩
theorem ScaleAt.step {m p : Nat} {xs L : List Nat} {k q : Nat} (h : ScaleAt m p xs k q L) (hx : k < xs.length) :
    ScaleAt m p xs (k + 1) ((xs[k] * m + q) / 4294967296) (L.set k ((xs[k] * m + q) % 4294967296)) := by
  obtain ⟨D, h1, h2, h3⟩ := h
  refine ⟨D ++ [(xs[k] * m + q) % 4294967296], by simp [h1], ?_, ?_⟩
  · rw [h2, set_zeros D _ _ k h1 (by omega)]; congr 2
  · rw [h3, List.drop_eq_getElem_cons hx, scaleL]
    simp
theorem ScaleAt.last {m p : Nat} {xs L : List Nat} {q : Nat} (h : ScaleAt m p xs xs.length q L) : L.set xs.length q = scaleL m xs p := by
  obtain ⟨D, h1, h2, h3⟩ := h
  rw [h3, h2, set_zeros D _ _ _ h1 (by omega), List.drop_length, scaleL, show xs.length + 1 - xs.length - 1 = 0 by omega]
  simp

set_option maxHeartbeats 1000000 in
theorem scale_any (A : Option Addr) (c : Nat) (xs : List Nat) (m p : Nat) (w : World) (ha : Mg w A c xs) (hm : m < 4294967296) (hp : p < 4294967296) (hs : xs.length ≤ 1073741824) :
    Calls Tryd.prog 65 #[.slice A xs.length c, .int .u32 m, .int .u32 p] w (RetN w (val xs * m + p)) := by
  have hmk := make32 (xs.length + 1) (by omega)
  rw [show ((xs.length + 1 : Nat) : Int) = (xs.length : Int) + 1 from by omega] at hmk
  go_enter Tryd.func65, Tryd.ntmps65
  go_wp2
  go_loopw [8, 19] (fun cr i wr => ∃ (k q : Nat) (L : List Nat), k ≤ xs.length ∧ i = .int .i64 k ∧ cr = .int .u32 q ∧ q < 4294967296 ∧ Below w.heap.size w wr ∧ LB wr w.heap.size L ∧ ScaleAt m p xs k q L) (fun _ i _ => xs.length - (intOf i).toNat)
  case atStart => exact ⟨0, p, _, Nat.zero_le _, rfl, rfl, hp, (Below.refl _ _).alloc (Nat.le_refl _) _, LB.made w (xs.length + 1), .start _ _ _⟩
  case round =>
    obtain ⟨k, q, L, hk, rfl, rfl, hq, hbl, hL, hat⟩ := hrel
    have hgl := hL.lt
    have hkL : k < L.length := by rw [hat.len (by omega)]; omega
    have cell0 := hL.cell k hkL
    have free0 := hL.free k
    have hwz := hbl.size
    by_cases hkl : k < xs.length
    · obtain ⟨ba, oa, rfl, hba, hca⟩ := ha.rd.at_ hkl
      have c1 := (hbl.cell (p := ⟨ba, oa + k, none⟩) hba).trans (hca k hkl)
      have o1 := ha.ok.get hkl
      have hba2 : ba < wr.heap.size := by omega
      unfold lim at c1
      clear hca
      obtain ⟨p0, p1⟩ := prod_bd xs[k] m o1 hm
      have hmb := mul_bound o1 hm (p := 0) (by omega) hq
      go_wp2_with (go_at_call 88; refine (split_any _ _ (by omega) (by omega)).mono ?_; rintro e w1 ⟨rfl, hb1⟩; obtain ⟨hc1, hf1⟩ := bcell hb1; have hgl1 := Nat.lt_of_lt_of_le hgl hb1.size)
      go_region
      go_wp2
      go_roundw
      case rel => exact ⟨k + 1, (xs[k] * m + q) / 4294967296, L.set k ((xs[k] * m + q) % 4294967296), by omega, by go_num, val_i (by rw [muladd2]; omega), by omega, (by repeat (first | exact hbl | exact hbl.trans (hb1.mono hwz) | refine Below.drew ?_ | refine below_drewN ?_ _ | refine Below.setCell ?_ (by exact Nat.le_refl _) _ | refine Below.alloc ?_ (by simp; omega) _)), (by repeat (first | exact hL | exact hL.below hb1 hgl | refine LB.drew ?_ | refine LB.drewN ?_ _ | refine LB.alloc ?_ _ | refine LB.set_ ?_ _ _ _ (by rw [muladd2]; omega))), hat.step hkl⟩
      case measure => simp [intOf]; omega
    · obtain rfl : k = xs.length := by omega
      go_wp2_with (go_at_call 86; refine trim_fin (hL.set_ _ _ q rfl) (by rw [hat.last]; exact ok_scaleL _ _ _ hm ha.ok hp) (by rw [hat.last, length_scaleL]) (by omega) (val xs * m + p) (by rw [hat.last, val_scaleL]) (hbl.setCell (by exact Nat.le_refl _) _) ?_; rintro e w1 ⟨R, cc, rfl, hr1, hr2⟩)
      go_ret
      exact ⟨R, cc, rfl, hr1, hr2⟩

end Go.Proofs.YtkfpcohdbbhmaaaDoor
