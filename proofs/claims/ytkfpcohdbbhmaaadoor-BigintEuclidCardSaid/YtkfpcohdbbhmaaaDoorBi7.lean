/- Magnitudes: walks of fromWord, word, shiftLeft, shiftRight. Conditions: none. -/
import Derived.Test.YtkfpcohdbbhmaaaDoorBi6
import Derived.Test.YtkfpcohdbbhmaaaDoorNat4
namespace Go.Proofs.YtkfpcohdbbhmaaaDoor
set_option linter.unusedVariables false
set_option linter.unusedSimpArgs false
open Go.RowKit Big

set_option maxHeartbeats 400000 in
theorem fromWord_any (u : Nat) (w : World) (hu : u ≤ 18446744073709551615) : Calls Tryd.prog 77 #[.int .u64 u] w (RetN w u) := by
  have hm : ∀ w1 : World, Mg (w1.alloc (.cells #[.int .u32 ((u : Int) % 4294967296), .int .u32 ((u : Int) / 4294967296)] 91)) (some ⟨w1.heap.size, 0, none⟩) 2 [u % 4294967296, u / 4294967296] := fun w1 => by
    refine ⟨Nat.le_refl _, by omega, ?_, Rd.of_blk (heap_alloc_new _ _) ?_⟩
    · intro x hx
      simp at hx
      omega
    · intro j hj
      match j, hj with
      | 0, _ => simp [lim]
      | 1, _ => simp [lim]
  have hv : val [u % 4294967296, u / 4294967296] = u := by simp only [val]; omega
  have ht := fun w1 => trim_any _ _ _ _ (hm w1)
  simp only [hv, List.length_cons, List.length_nil] at ht
  have HT := hid ht
  clear ht hm hv
  go_enter Tryd.func77, Tryd.ntmps77
  go_wp2_with (first | (go_at_call 88; refine (split_any _ _ (by omega) (by omega)).mono ?_; rintro e w1 ⟨rfl, hb1⟩) | (go_at_call 86; refine (HT.out _).mono ?_; rintro e w2 ⟨R, cc, rfl, hr1, hr2⟩))
  go_ret
  exact ⟨R, cc, rfl, hr1, (hb1.alloc hb1.size _).trans (hr2.mono (by simp; have := hb1.size; omega))⟩

set_option maxHeartbeats 400000 in
theorem word0 (A : Option Addr) (c : Nat) (w : World) : Calls Tryd.prog 78 #[.slice A 0 c] w fun e w' => e = .returned (.int .u64 0) ∧ w' = w := by
  go_enter Tryd.func78, Tryd.ntmps78
  go_wp2
  refine wp_loop_rounds 1 ?_; rw [rounds_succ]
  go_wp2
  go_ret
  exact ⟨rfl, rfl⟩

set_option maxHeartbeats 400000 in
theorem word1 (b o x c : Nat) (w : World) (hx : x < 4294967296) (h0 : w.cell? ⟨b, o, none⟩ = some (.int .u32 x)) : Calls Tryd.prog 78 #[.slice (some ⟨b, o, none⟩) 1 c] w fun e w' => e = .returned (.int .u64 x) ∧ w' = w := by
  have hor : bits .or .u64 0 (x : Int) = x := by have := or32 0 x (by omega) hx; simpa using this
  go_enter Tryd.func78, Tryd.ntmps78
  go_wp2
  refine wp_loop_rounds 2 ?_; rw [rounds_succ]
  go_wp2
  rw [rounds_succ]
  go_wp2
  go_ret
  exact ⟨rfl, rfl⟩

theorem or32' (r x : Nat) (hr : r < 4294967296) (hx : x < 4294967296) : bits .or .u64 (x : Int) ((r : Int) * 4294967296) = (x : Int) + (r : Int) * 4294967296 := by
  have e : (r : Int) * 4294967296 = ((r * 4294967296 : Nat) : Int) := by omega
  rw [e, u64_or_nat _ _ (by omega) (by omega), Nat.or_comm, nat_join 32 _ _ (by omega) (by omega)]
  omega

set_option maxHeartbeats 400000 in
theorem word2 (b o x y c : Nat) (w : World) (hx : x < 4294967296) (hy : y < 4294967296) (h0 : w.cell? ⟨b, o, none⟩ = some (.int .u32 x)) (h1 : w.cell? ⟨b, o + 1, none⟩ = some (.int .u32 y)) :
    Calls Tryd.prog 78 #[.slice (some ⟨b, o, none⟩) 2 c] w fun e w' => e = .returned (.int .u64 ((x : Int) + (y : Int) * 4294967296)) ∧ w' = w := by
  have hor : bits .or .u64 0 (x : Int) = x := by have := or32 0 x (by omega) hx; simpa using this
  have hor2 := or32' y x hy hx
  go_enter Tryd.func78, Tryd.ntmps78
  go_wp2
  refine wp_loop_rounds 3 ?_; rw [rounds_succ]
  go_wp2
  rw [rounds_succ]
  go_wp2
  rw [rounds_succ]
  go_wp2
  go_ret
  exact ⟨rfl, rfl⟩

theorem word_any (A : Option Addr) (c : Nat) (xs : List Nat) (w : World) (h : Mg w A c xs) (hl : xs.length ≤ 2) : Calls Tryd.prog 78 #[.slice A xs.length c] w fun e w' => e = .returned (.int .u64 (val xs : Nat)) ∧ Below w.heap.size w w' := by
  match xs, hl, h with
  | [], _, _ => exact (word0 A c w).mono fun e w' ⟨h1, h2⟩ => ⟨by rw [h1]; rfl, by rw [h2]; exact Below.refl _ _⟩
  | [x], _, h =>
    obtain ⟨b, o, rfl, hb, hc⟩ := h.rd.at_ (k := 0) (by simp)
    have c0 := hc 0 (by simp)
    refine (word1 b o x c w h.ok.head c0).mono fun e w' ⟨h1, h2⟩ => ⟨by rw [h1]; simp [val], by rw [h2]; exact Below.refl _ _⟩
  | [x, y], _, h =>
    obtain ⟨b, o, rfl, hb, hc⟩ := h.rd.at_ (k := 0) (by simp)
    have c0 := hc 0 (by simp)
    have c1 := hc 1 (by simp)
    refine (word2 b o x y c w h.ok.head h.ok.tail.head c0 c1).mono fun e w' ⟨h1, h2⟩ => ⟨by rw [h1]; exact ret_int (by simp only [val]; omega), by rw [h2]; exact Below.refl _ _⟩
  | _ :: _ :: _ :: _, hl, _ => simp at hl

def ShlAt (m : Nat) (xs : List Nat) (k : Nat) (L : List Nat) : Prop :=
  ∃ (D : List Nat) (q : Nat), D.length = k ∧ q < m ∧ L = D ++ q :: List.replicate (xs.length - k) 0 ∧ shl m xs 0 = D ++ shl m (xs.drop k) q
theorem ShlAt.len {m : Nat} {xs L : List Nat} {k : Nat} (h : ShlAt m xs k L) (hk : k ≤ xs.length) : L.length = xs.length + 1 := by
  obtain ⟨D, q, h1, _, h2, _⟩ := h; subst h2; simp; omega
theorem ShlAt.start (m : Nat) (xs : List Nat) (hm : 0 < m) : ShlAt m xs 0 (List.replicate (xs.length + 1) 0) := ⟨[], 0, rfl, hm, by simp [List.replicate_succ], by simp⟩
theorem ShlAt.got {m : Nat} {xs L : List Nat} {k : Nat} (h : ShlAt m xs k L) (hL : k < L.length) : L[k] < m := by
  obtain ⟨D, q, h1, h2, h3, _⟩ := h
  subst h3; subst h1
  simpa using h2
theorem ShlAt.step {m : Nat} {xs L : List Nat} {k : Nat} (h : ShlAt m xs k L) (hx : k < xs.length) (ho : xs[k] < 4294967296) (hL : k < L.length) :
    ShlAt m xs (k + 1) ((L.set k (L[k] + xs[k] * m % 4294967296)).set (k + 1) (xs[k] * m / 4294967296)) := by
  obtain ⟨D, q, h1, h2, h3, h4⟩ := h
  have e : L[k] = q := by subst h3; subst h1; simp
  rw [e]
  refine ⟨D ++ [q + xs[k] * m % 4294967296], xs[k] * m / 4294967296, by simp [h1], ?_, ?_, ?_⟩
  · rw [Nat.div_lt_iff_lt_mul (by omega), Nat.mul_comm m]; exact Nat.mul_lt_mul_of_pos_right ho (by omega)
  · obtain ⟨j, hj⟩ : ∃ j, xs.length - k = j + 1 := ⟨xs.length - k - 1, by omega⟩
    rw [h3, hj, List.replicate_succ, List.set_append_right _ _ (by omega), List.set_append_right _ _ (by omega), h1, show k - k = 0 by omega, show k + 1 - k = 1 by omega, show xs.length - (k + 1) = j by omega]
    simp
  · rw [h4, List.drop_eq_getElem_cons hx, shl, Nat.add_comm q]
    simp
theorem ShlAt.last {m : Nat} {xs L : List Nat} (h : ShlAt m xs xs.length L) : L = shl m xs 0 := by
  obtain ⟨D, q, h1, _, h2, h3⟩ := h
  rw [h3, h2, List.drop_length, shl]; simp

/-- a new row of limbs, of the call's own -/
def RetL (w : World) (L : List Nat) (e : Ending) (w' : World) : Prop :=
  ∃ g, w.heap.size ≤ g ∧ e = .returned (.slice (some ⟨g, 0, none⟩) L.length L.length) ∧ LB w' g L ∧ Below w.heap.size w w'

theorem pow_cases {n : Nat} (hn : n ≤ 31) : 0 < 2 ^ n ∧ 2 ^ n ≤ 2147483648 ∧ 2 ^ n * 2 ^ (32 - n) = 4294967296 := by
  refine ⟨Nat.pow_pos (by omega), ?_, ?_⟩
  · have := Nat.pow_le_pow_right (n := 2) (by omega) hn; simpa using this
  · rw [← Nat.pow_add, show n + (32 - n) = 32 by omega]

set_option maxHeartbeats 1000000 in
theorem shiftLeft_any (A : Option Addr) (c n : Nat) (xs : List Nat) (w : World) (ha : Mg w A c xs) (hn : n ≤ 31) (hs : xs.length ≤ 1073741824) :
    Calls Tryd.prog 84 #[.slice A xs.length c, .int .i64 n] w (RetL w (shl (2 ^ n) xs 0)) := by
  have hmk := make32 (xs.length + 1) (by omega)
  rw [show ((xs.length + 1 : Nat) : Int) = (xs.length : Int) + 1 from by omega] at hmk
  obtain ⟨pm0, pm1, pm2⟩ := pow_cases hn
  have HP := hid pm2
  clear pm2
  go_enter Tryd.func84, Tryd.ntmps84
  go_wp2
  go_loopw [15] (fun i wr => ∃ (k : Nat) (L : List Nat), k ≤ xs.length ∧ i = .int .i64 k ∧ Below w.heap.size w wr ∧ LB wr w.heap.size L ∧ ShlAt (2 ^ n) xs k L) (fun i _ => xs.length - (intOf i).toNat)
  case atStart => exact ⟨0, _, Nat.zero_le _, rfl, (Below.refl _ _).alloc (Nat.le_refl _) _, LB.made w (xs.length + 1), .start _ _ pm0⟩
  case round =>
    obtain ⟨k, L, hk, rfl, hbl, hL, hat⟩ := hrel
    have hgl := hL.lt
    have hwz := hbl.size
    by_cases hkl : k < xs.length
    · have hkL : k < L.length := by rw [hat.len hk]; omega
      have hkL1 : k + 1 < L.length := by rw [hat.len hk]; omega
      have cell0 := hL.cell k hkL
      have cell1 := hL.cell (k + 1) hkL1
      have free0 := hL.free k
      have free1 := hL.free (k + 1)
      obtain ⟨ba, oa, rfl, hba, hca⟩ := ha.rd.at_ hkl
      have c1 := (hbl.cell (p := ⟨ba, oa + k, none⟩) hba).trans (hca k hkl)
      have o1 := ha.ok.get hkl
      have hba2 : ba < wr.heap.size := by omega
      unfold lim at c1
      clear hca
      have hst := hat.step hkl o1 hkL
      have hlk := hat.got hkL
      have hpb : xs[k] * 2 ^ n ≤ 4294967295 * 2147483648 := Nat.mul_le_mul (by omega) pm1
      have hpow : IntKind.u64.wrap ((xs[k] : Int) * 2 ^ n) = ((xs[k] * 2 ^ n : Nat) : Int) := by
        rw [show (xs[k] : Int) * 2 ^ n = ((xs[k] * 2 ^ n : Nat) : Int) by push_cast; rfl, IntKind.wrap_u64]; omega
      have hj := shl_or (x := xs[k]) (c := L[k]) (n := n) HP.out rfl hlk
      have hor : bits .or .u32 (L[k] : Int) (((xs[k] * 2 ^ n : Nat) : Int) % 4294967296) = ((L[k] + xs[k] * 2 ^ n % 4294967296 : Nat) : Int) := by
        rw [show ((xs[k] * 2 ^ n : Nat) : Int) % 4294967296 = ((xs[k] * 2 ^ n % 4294967296 : Nat) : Int) by omega, u32_or_nat _ _ (by omega) (by omega), Nat.or_comm, nat_join n _ _ hj hlk, Nat.add_comm]
      generalize xs[k] * 2 ^ n = p at *
      clear hj hlk
      go_wp2_with (go_at_call 88; refine (split_any _ _ (by omega) (by omega)).mono ?_; rintro e w1 ⟨rfl, hb1⟩; obtain ⟨hc1, hf1⟩ := bcell hb1; have hgl1 := Nat.lt_of_lt_of_le hgl hb1.size)
      go_region
      go_wp2
      go_roundw
      case rel => exact ⟨k + 1, _, by omega, by go_num, (by repeat (first | exact hbl | exact hbl.trans (hb1.mono hwz) | refine Below.drew ?_ | refine below_drewN ?_ _ | refine Below.setCell ?_ (by exact Nat.le_refl _) _ | refine Below.alloc ?_ (by simp; omega) _)), (by repeat (first | exact hL | exact hL.below hb1 hgl | refine LB.drew ?_ | refine LB.drewN ?_ _ | refine LB.alloc ?_ _ | refine LB.set_ ?_ _ _ _ (by omega))), hst⟩
      case measure => simp [intOf]; omega
    · obtain rfl : k = xs.length := by omega
      have e := hat.last
      have hl := hat.len (Nat.le_refl _)
      go_wp2
      go_ret
      exact ⟨_, Nat.le_refl _, by rw [length_shl]; rfl, by rw [← e]; exact hL, hbl⟩

def ShrAt (m : Nat) (xs : List Nat) (k : Nat) (L : List Nat) : Prop :=
  ∃ D : List Nat, D.length = k ∧ L = D ++ List.replicate (xs.length - k) 0 ∧ shrL m xs = D ++ shrL m (xs.drop k)
theorem ShrAt.len {m : Nat} {xs L : List Nat} {k : Nat} (h : ShrAt m xs k L) (hk : k ≤ xs.length) : L.length = xs.length := by
  obtain ⟨D, h1, h2, _⟩ := h; subst h2; simp; omega
theorem ShrAt.start (m : Nat) (xs : List Nat) : ShrAt m xs 0 (List.replicate xs.length 0) := ⟨[], rfl, by simp, by simp⟩
theorem ShrAt.two {m : Nat} {xs L : List Nat} {k : Nat} (h : ShrAt m xs k L) (hx : k + 1 < xs.length) :
    ShrAt m xs (k + 1) (L.set k ((xs[k] + 4294967296 * xs[k + 1]) / m % 4294967296)) := by
  obtain ⟨D, h1, h2, h3⟩ := h
  refine ⟨D ++ [(xs[k] + 4294967296 * xs[k + 1]) / m % 4294967296], by simp [h1], ?_, ?_⟩
  · rw [h2, set_zeros D _ _ k h1 (by omega)]; congr 2
  · rw [h3, List.drop_eq_getElem_cons (by omega : k < xs.length), List.drop_eq_getElem_cons hx, shrL]
    simp
theorem ShrAt.one {m : Nat} {xs L : List Nat} {k : Nat} (h : ShrAt m xs k L) (hk : k < xs.length) (hx : xs.length = k + 1) :
    ShrAt m xs (k + 1) (L.set k (xs[k] / m % 4294967296)) := by
  obtain ⟨D, h1, h2, h3⟩ := h
  refine ⟨D ++ [xs[k] / m % 4294967296], by simp [h1], ?_, ?_⟩
  · rw [h2, set_zeros D _ _ k h1 (by omega)]; congr 2
  · rw [h3, List.drop_eq_getElem_cons (by omega : k < xs.length), List.drop_of_length_le (by omega : xs.length ≤ k + 1), shrL]
    simp [shrL]
theorem ShrAt.last {m : Nat} {xs L : List Nat} (h : ShrAt m xs xs.length L) : L = shrL m xs := by
  obtain ⟨D, h1, h2, h3⟩ := h
  rw [h3, h2, List.drop_length, shrL]; simp

theorem shr_two (x y n : Nat) : ((x : Int) + (y : Int) * 4294967296) / 2 ^ n % 4294967296 = (((x + 4294967296 * y) / 2 ^ n % 4294967296 : Nat) : Int) := by
  rw [show (x : Int) + (y : Int) * 4294967296 = ((x + 4294967296 * y : Nat) : Int) by omega, show (2 : Int) ^ n = ((2 ^ n : Nat) : Int) by push_cast; rfl, ← Int.natCast_ediv]
  exact (Int.natCast_emod _ _).symm
theorem shr_one (x n : Nat) : (x : Int) / 2 ^ n % 4294967296 = ((x / 2 ^ n % 4294967296 : Nat) : Int) := by
  rw [show (2 : Int) ^ n = ((2 ^ n : Nat) : Int) by push_cast; rfl, ← Int.natCast_ediv]
  exact (Int.natCast_emod _ _).symm

set_option maxHeartbeats 1000000 in
theorem shiftRight_any (A : Option Addr) (c n : Nat) (xs : List Nat) (w : World) (ha : Mg w A c xs) (hn : n ≤ 31) (hs : xs.length ≤ 1073741824) :
    Calls Tryd.prog 87 #[.slice A xs.length c, .int .i64 n] w (RetN w (val xs / 2 ^ n)) := by
  have hmk := make32 xs.length (by omega)
  obtain ⟨pm0, pm1, pm2⟩ := pow_cases hn
  have HP := hid pm2
  clear pm2
  go_enter Tryd.func87, Tryd.ntmps87
  go_wp2
  go_loopw [14] (fun i wr => ∃ (k : Nat) (L : List Nat), k ≤ xs.length ∧ i = .int .i64 k ∧ Below w.heap.size w wr ∧ LB wr w.heap.size L ∧ ShrAt (2 ^ n) xs k L) (fun i _ => xs.length - (intOf i).toNat)
  case atStart => exact ⟨0, _, Nat.zero_le _, rfl, (Below.refl _ _).alloc (Nat.le_refl _) _, LB.made w xs.length, .start _ _⟩
  case round =>
    obtain ⟨k, L, hk, rfl, hbl, hL, hat⟩ := hrel
    have hgl := hL.lt
    have hwz := hbl.size
    by_cases hkl : k < xs.length
    · have hkL : k < L.length := by rw [hat.len hk]; omega
      have cell0 := hL.cell k hkL
      have free0 := hL.free k
      obtain ⟨ba, oa, rfl, hba, hca⟩ := ha.rd.at_ hkl
      have c1 := (hbl.cell (p := ⟨ba, oa + k, none⟩) hba).trans (hca k hkl)
      have o1 := ha.ok.get hkl
      have hba2 : ba < wr.heap.size := by omega
      unfold lim at c1
      by_cases hk1 : k + 1 < xs.length
      · have c2 := (hbl.cell (p := ⟨ba, oa + (k + 1), none⟩) hba).trans (hca (k + 1) hk1)
        have o2 := ha.ok.get hk1
        unfold lim at c2
        clear hca
        have hor := or32' xs[k + 1] xs[k] o2 o1
        have hs2 := shr_two xs[k] xs[k + 1] n
        have hst := hat.two hk1
        generalize (xs[k] + 4294967296 * xs[k + 1]) / 2 ^ n % 4294967296 = V at hs2 hst
        go_wp2
        go_roundw
        case rel => exact ⟨k + 1, _, by omega, by go_num, (by repeat (first | exact hbl | refine Below.drew ?_ | refine below_drewN ?_ _ | refine Below.setCell ?_ (by exact Nat.le_refl _) _ | refine Below.alloc ?_ (by simp; omega) _)), (by repeat (first | exact hL | refine LB.drew ?_ | refine LB.set_ ?_ _ _ _ rfl)), hst⟩
        case measure => simp [intOf]; omega
      · clear hca
        have hs1 := shr_one xs[k] n
        have hst := hat.one hkl (by omega)
        generalize xs[k] / 2 ^ n % 4294967296 = V at hs1 hst
        go_wp2
        go_roundw
        case rel => exact ⟨k + 1, _, by omega, by go_num, (by repeat (first | exact hbl | refine Below.drew ?_ | refine below_drewN ?_ _ | refine Below.setCell ?_ (by exact Nat.le_refl _) _ | refine Below.alloc ?_ (by simp; omega) _)), (by repeat (first | exact hL | refine LB.drew ?_ | refine LB.set_ ?_ _ _ _ rfl)), hst⟩
        case measure => simp [intOf]; omega
    · obtain rfl : k = xs.length := by omega
      go_wp2_with (go_at_call 86; refine trim_fin hL (by rw [hat.last]; exact ok_shrL _ _) (hat.len (Nat.le_refl _)) (by omega) (val xs / 2 ^ n) (by rw [hat.last, val_shrL HP.out xs ha.ok]) hbl ?_; rintro e w1 ⟨R, cc, rfl, hr1, hr2⟩)
      go_ret
      exact ⟨R, cc, rfl, hr1, hr2⟩

end Go.Proofs.YtkfpcohdbbhmaaaDoor
