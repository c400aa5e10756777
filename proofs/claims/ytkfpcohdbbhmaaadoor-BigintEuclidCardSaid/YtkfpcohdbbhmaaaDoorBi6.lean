/- Magnitudes: walks of divideSmall, fromWord, word. Conditions: none. -/
import Derived.Test.YtkfpcohdbbhmaaaDoorBi4
namespace Go.Proofs.YtkfpcohdbbhmaaaDoor
set_option linter.unusedVariables false
set_option linter.unusedSimpArgs false
open Go.RowKit Big

theorem or32 (r x : Nat) (hr : r < 4294967296) (hx : x < 4294967296) : bits .or .u64 ((r : Int) * 4294967296) (x : Int) = (r : Int) * 4294967296 + x := by
  have e : (r : Int) * 4294967296 = ((r * 4294967296 : Nat) : Int) := by omega
  rw [e, u64_or_nat _ _ (by omega) (by omega), nat_join 32 _ _ (by omega) (by omega)]
  omega

theorem cast_div (r x d : Nat) : ((r : Int) * 4294967296 + (x : Int)) / (d : Int) = (((r * 4294967296 + x) / d : Nat) : Int) := by
  rw [show (r : Int) * 4294967296 + (x : Int) = ((r * 4294967296 + x : Nat) : Int) by omega]; exact (Int.natCast_ediv _ _).symm
theorem cast_mod (r x d : Nat) : ((r : Int) * 4294967296 + (x : Int)) % (d : Int) = (((r * 4294967296 + x) % d : Nat) : Int) := by
  rw [show (r : Int) * 4294967296 + (x : Int) = ((r * 4294967296 + x : Nat) : Int) by omega]; exact (Int.natCast_emod _ _).symm

def DivAt (d : Nat) (xs : List Nat) (k r : Nat) (L : List Nat) : Prop := L = List.replicate k 0 ++ (divS d (xs.drop k)).1 ∧ r = (divS d (xs.drop k)).2
theorem DivAt.len {d : Nat} {xs L : List Nat} {k r : Nat} (h : DivAt d xs k r L) (hk : k ≤ xs.length) : L.length = xs.length := by
  obtain ⟨rfl, _⟩ := h; simp [length_divS]; omega
theorem DivAt.start (d : Nat) (xs : List Nat) : DivAt d xs xs.length 0 (List.replicate xs.length 0) := ⟨by simp [divS], by simp [divS]⟩
theorem DivAt.lt {d : Nat} {xs L : List Nat} {k r : Nat} (h : DivAt d xs k r L) (hd : 0 < d) : r < d := by rw [h.2]; exact (divS_spec d hd _).2
theorem DivAt.step {d : Nat} {xs L : List Nat} {k r : Nat} (h : DivAt d xs k r L) (hk : 0 < k) (hx : k - 1 < xs.length) :
    DivAt d xs (k - 1) ((r * 4294967296 + xs[k - 1]) % d) (L.set (k - 1) ((r * 4294967296 + xs[k - 1]) / d)) := by
  obtain ⟨rfl, rfl⟩ := h
  have e : xs.drop (k - 1) = xs[k - 1] :: xs.drop k := by rw [List.drop_eq_getElem_cons hx, show k - 1 + 1 = k by omega]
  refine ⟨?_, by rw [e, divS]⟩
  rw [e, divS, show List.replicate k 0 = List.replicate (k - 1) 0 ++ [0] by
    obtain ⟨m, rfl⟩ : ∃ m, k = m + 1 := ⟨k - 1, by omega⟩
    simp [List.replicate_succ'], List.append_assoc, List.set_append_right _ _ (by simp)]
  simp

/-- the quotient's limbs and a small remainder -/
def RetNR (w : World) (q r : Nat) (e : Ending) (w' : World) : Prop :=
  ∃ A c, e = .returned (.tuple #[.slice A (limbs q).length c, .int .u32 r]) ∧ Mg w' A c (limbs q) ∧ Below w.heap.size w w'

/-- the same, in new memory -/
def RetNRF (w : World) (q r : Nat) (e : Ending) (w' : World) : Prop :=
  ∃ c, e = .returned (.tuple #[.slice (some ⟨w.heap.size, 0, none⟩) (limbs q).length c, .int .u32 r]) ∧ Mg w' (some ⟨w.heap.size, 0, none⟩) c (limbs q) ∧ Below w.heap.size w w'

theorem div_lt_B {r x d : Nat} (hr : r < d) (hx : x < 4294967296) : (r * 4294967296 + x) / d < 4294967296 := by
  rw [Nat.div_lt_iff_lt_mul (by omega), Nat.mul_comm 4294967296 d]
  have := Nat.mul_le_mul_right 4294967296 (show r + 1 ≤ d from hr)
  omega

set_option maxHeartbeats 1000000 in
theorem divideSmall_fr (A : Option Addr) (c : Nat) (xs : List Nat) (d : Nat) (w : World) (ha : Mg w A c xs) (h0 : 0 < d) (hd : d < 4294967296) (hs : xs.length ≤ 1073741824) :
    Calls Tryd.prog 67 #[.slice A xs.length c, .int .u32 d] w (RetNRF w (val xs / d) (val xs % d)) := by
  have hmk := make32 xs.length (by omega)
  go_enter Tryd.func67, Tryd.ntmps67
  go_wp2
  go_loopw [5, 6] (fun rr i wr => ∃ (k r : Nat) (L : List Nat), k ≤ xs.length ∧ i = .int .i64 ((k : Int) - 1) ∧ rr = .int .u32 r ∧ Below w.heap.size w wr ∧ LB wr w.heap.size L ∧ DivAt d xs k r L) (fun _ i _ => (intOf i + 1).toNat)
  case atStart => exact ⟨xs.length, 0, _, Nat.le_refl _, rfl, rfl, (Below.refl _ _).alloc (Nat.le_refl _) _, LB.made w xs.length, .start _ _⟩
  case round =>
    obtain ⟨k, r, L, hk, rfl, rfl, hbl, hL, hat⟩ := hrel
    have hgl := hL.lt
    have hr := hat.lt h0
    by_cases hk0 : 0 < k
    · have hk1 : k - 1 < xs.length := by omega
      have hkL : k - 1 < L.length := by rw [hat.len hk]; exact hk1
      have cell0 := hL.cell (k - 1) hkL
      have free0 := hL.free (k - 1)
      have hwz := hbl.size
      obtain ⟨ba, oa, rfl, hba, hca⟩ := ha.rd.at_ hk1
      have c1 := (hbl.cell (p := ⟨ba, oa + (k - 1), none⟩) hba).trans (hca (k - 1) hk1)
      have o1 := ha.ok.get hk1
      have hba2 : ba < wr.heap.size := by omega
      unfold lim at c1
      clear hca
      have hor := or32 r xs[k - 1] (by omega) o1
      have hq := div_lt_B hr o1
      have hq1 : ((r : Int) * 4294967296 + (xs[k - 1] : Int)) / (d : Int) = (((r * 4294967296 + xs[k - 1]) / d : Nat) : Int) := cast_div r _ d
      have hq2 : ((r : Int) * 4294967296 + (xs[k - 1] : Int)) % (d : Int) = (((r * 4294967296 + xs[k - 1]) % d : Nat) : Int) := cast_mod r _ d
      have hm := Nat.mod_lt (r * 4294967296 + xs[k - 1]) h0
      generalize hQ : (r * 4294967296 + xs[k - 1]) / d = Q at hq hq1
      generalize hR : (r * 4294967296 + xs[k - 1]) % d = R at hm hq2
      have HQ := hid hQ
      have HR := hid hR
      clear hQ hR
      go_wp2
      go_region
      go_wp2
      go_roundw
      case rel => exact ⟨k - 1, R, L.set (k - 1) Q, by omega, by go_num, by go_num, (by repeat (first | exact hbl | refine Below.drew ?_ | refine below_drewN ?_ _ | refine Below.setCell ?_ (by exact Nat.le_refl _) _ | refine Below.alloc ?_ (by simp; omega) _)), (by repeat (first | exact hL | refine LB.drew ?_ | refine LB.drewN ?_ _ | refine LB.alloc ?_ _ | refine LB.set_ ?_ _ _ _ (by omega))), by rw [← HQ.out, ← HR.out]; exact hat.step hk0 hk1⟩
      case measure => simp [intOf]; omega
    · obtain rfl : k = 0 := by omega
      have hv := divS_eq d h0 xs
      have hLL : L = (divS d xs).1 := by simpa using hat.1
      have hrr : r = (divS d xs).2 := by simpa using hat.2
      have HV := hid hv; clear hv
      have HL1 := hid hLL; clear hLL
      have HR1 := hid hrr; clear hrr
      go_wp2_with (go_at_call 86; refine trim_finA hL (by rw [HL1.out]; exact ok_divS d h0 xs ha.ok) (hat.len (Nat.zero_le _)) (by omega) (val xs / d) (by rw [HL1.out, HV.out.1]) hbl ?_; rintro e w1 ⟨cc, rfl, hr1, hr2⟩)
      go_ret2
      exact ⟨cc, by rw [HR1.out, HV.out.2]; rfl, hr1, hr2⟩

theorem divideSmall_any (A : Option Addr) (c : Nat) (xs : List Nat) (d : Nat) (w : World) (ha : Mg w A c xs) (h0 : 0 < d) (hd : d < 4294967296) (hs : xs.length ≤ 1073741824) :
    Calls Tryd.prog 67 #[.slice A xs.length c, .int .u32 d] w (RetNR w (val xs / d) (val xs % d)) :=
  (divideSmall_fr A c xs d w ha h0 hd hs).mono fun _ _ h => ⟨_, h⟩

end Go.Proofs.YtkfpcohdbbhmaaaDoor
