/- Magnitudes: walks of divideSmall, fromWord, word. Conditions: none. -/
import Derived.Test.YtfdmlfpldgobjaaGreatDoorZBaA
import Derived.Test.YtfdmlfpldgobjaaGreatDoorZNtA
set_option linter.unusedVariables false
set_option linter.unusedSimpArgs false
namespace Go.Proofs.YtfdmlfpldgobjaaGreatDoor
open Go.RowKit Big
theorem or32 (r x : Nat) (hr : r < 4294967296) (hx : x < 4294967296) : bits .or .u64 ((r : Int) * 4294967296) (x : Int) = (r : Int) * 4294967296 + x := by
 have e : (r : Int) * 4294967296 = ((r * 4294967296 : Nat) : Int) := by omega
 rw [e, u64_or_nat _ _ (by omega) (by omega), nat_join 32 _ _ (by omega) (by omega)]
 omega
theorem cast_div (r x d : Nat) : ((r : Int) * 4294967296 + (x : Int)) / (d : Int) = (((r * 4294967296 + x) / d : Nat) : Int) := by
 rw [show (r : Int) * 4294967296 + (x : Int) = ((r * 4294967296 + x : Nat) : Int) by omega]; exact (Int.natCast_ediv _ _).symm
theorem cast_mod (r x d : Nat) : ((r : Int) * 4294967296 + (x : Int)) % (d : Int) = (((r * 4294967296 + x) % d : Nat) : Int) := by
 rw [show (r : Int) * 4294967296 + (x : Int) = ((r * 4294967296 + x : Nat) : Int) by omega]; exact (Int.natCast_emod _ _).symm
def DivAt (d : Nat) (xs : List Nat) (k r : Nat) (L : List Nat) : Prop := L = List.replicate k 0 ++ (divS d (xs.drop k)).1 ∧ r = (divS d (xs.drop k)).2
theorem DivAt.len {d : Nat} {xs L : List Nat} {k r : Nat} (h : DivAt d xs k r L) (hk : k ≤ xs.length) : L.length = xs.length := by
 obtain ⟨rfl, _⟩ := h; simp [length_divS]; omega
theorem DivAt.start (d : Nat) (xs : List Nat) : DivAt d xs xs.length 0 (List.replicate xs.length 0) := ⟨by simp [divS], by simp [divS]⟩
theorem DivAt.lt {d : Nat} {xs L : List Nat} {k r : Nat} (h : DivAt d xs k r L) (hd : 0 < d) : r < d := by rw [h.2]; exact (divS_spec d hd _).2
theorem DivAt.step {d : Nat} {xs L : List Nat} {k r : Nat} (h : DivAt d xs k r L) (hk : 0 < k) (hx : k - 1 < xs.length) :
  DivAt d xs (k - 1) ((r * 4294967296 + xs[k - 1]) % d) (L.set (k - 1) ((r * 4294967296 + xs[k - 1]) / d)) := by
 obtain ⟨rfl, rfl⟩ := h
 have e : xs.drop (k - 1) = xs[k - 1] :: xs.drop k := by rw [List.drop_eq_getElem_cons hx, show k - 1 + 1 = k by omega]
 refine ⟨?_, by rw [e, divS]⟩
 rw [e, divS, show List.replicate k 0 = List.replicate (k - 1) 0 ++ [0] by
  obtain ⟨m, rfl⟩ : ∃ m, k = m + 1 := ⟨k - 1, by omega⟩
  simp [List.replicate_succ'], List.append_assoc, List.set_append_right _ _ (by simp)]
 simp
/-- the same, in new memory -/
def RetNRF (w : World) (q r : Nat) (e : Ending) (w' : World) : Prop :=
 ∃ c, e = .returned (.tuple #[.slice (some ⟨w.heap.size, 0, none⟩) (limbs q).length c, .int .u32 r]) ∧ Mg w' (some ⟨w.heap.size, 0, none⟩) c (limbs q) ∧ Below w.heap.size w w'
theorem div_lt_B {r x d : Nat} (hr : r < d) (hx : x < 4294967296) : (r * 4294967296 + x) / d < 4294967296 := by
 rw [Nat.div_lt_iff_lt_mul (by omega), Nat.mul_comm 4294967296 d]
 have := Nat.mul_le_mul_right 4294967296 (show r + 1 ≤ d from hr)
 omega
set_option maxHeartbeats 1000000 in
theorem divideSmall_nw (A : Option Addr) (c : Nat) (xs : List Nat) (d : Nat) (w : World) (ha : Mg w A c xs) (h0 : 0 < d) (hd : d < 4294967296) (hs : xs.length ≤ 1073741824) :
  Calls Tryz.prog 77 #[.slice A xs.length c, .int .u32 d] w fun e w' => RetNRF w (val xs / d) (val xs % d) e w' ∧ Hid (Nw w.heap.size w' (some ⟨w.heap.size, 0, none⟩)) := by
 have hmk := make32 xs.length (by omega)
 go_enter Tryz.func77, Tryz.ntmps77
 go_wp2
 go_loopw [5, 6] (fun rr i wr => ∃ (k r : Nat) (L : List Nat), k ≤ xs.length ∧ i = .int .i64 ((k : Int) - 1) ∧ rr = .int .u32 r ∧ Below w.heap.size w wr ∧ LB wr w.heap.size L ∧ DivAt d xs k r L) (fun _ i _ => (intOf i + 1).toNat)
 case atStart => exact ⟨xs.length, 0, _, Nat.le_refl _, rfl, rfl, (Below.refl _ _).alloc (Nat.le_refl _) _, LB.made w xs.length, .start _ _⟩
 case round =>
  obtain ⟨k, r, L, hk, rfl, rfl, hbl, hL, hat⟩ := hrel
  have hgl := hL.lt
  have hr := hat.lt h0
  by_cases hk0 : 0 < k
  ·have hk1 : k - 1 < xs.length := by omega
   have hkL : k - 1 < L.length := by rw [hat.len hk]; exact hk1
   have cell0 := hL.cell (k - 1) hkL
   have free0 := hL.free (k - 1)
   have hwz := hbl.size
   obtain ⟨ba, oa, rfl, hba, hca⟩ := ha.rd.at_ hk1
   have c1 := (hbl.cell (p := ⟨ba, oa + (k - 1), none⟩) hba).trans (hca (k - 1) hk1)
   have o1 := ha.ok.get hk1
   have hba2 : ba < wr.heap.size := by omega
   unfold lim at c1
   clear hca
   have hor := or32 r xs[k - 1] (by omega) o1
   have hq := div_lt_B hr o1
   have hq1 : ((r : Int) * 4294967296 + (xs[k - 1] : Int)) / (d : Int) = (((r * 4294967296 + xs[k - 1]) / d : Nat) : Int) := cast_div r _ d
   have hq2 : ((r : Int) * 4294967296 + (xs[k - 1] : Int)) % (d : Int) = (((r * 4294967296 + xs[k - 1]) % d : Nat) : Int) := cast_mod r _ d
   have hm := Nat.mod_lt (r * 4294967296 + xs[k - 1]) h0
   generalize hQ : (r * 4294967296 + xs[k - 1]) / d = Q at hq hq1
   generalize hR : (r * 4294967296 + xs[k - 1]) % d = R at hm hq2
   have HQ := hid hQ
   have HR := hid hR
   clear hQ hR
   go_wp2
   go_region
   go_wp2
   go_roundw
   case rel => exact ⟨k - 1, R, L.set (k - 1) Q, by omega, by go_num, by go_num, (by repeat (first | exact hbl | refine Below.drew ?_ | refine below_drewN ?_ _ | refine Below.setCell ?_ (by exact Nat.le_refl _) _ | refine Below.alloc ?_ (by simp; omega) _)), (by repeat (first | exact hL | refine LB.drew ?_ | refine LB.drewN ?_ _ | refine LB.alloc ?_ _ | refine LB.set_ ?_ _ _ _ (by omega))), by rw [← HQ.out, ← HR.out]; exact hat.step hk0 hk1⟩
   case measure => simp [intOf]; omega
  ·obtain rfl : k = 0 := by omega
   have hv := divS_eq d h0 xs
   have hLL : L = (divS d xs).1 := by simpa using hat.1
   have hrr : r = (divS d xs).2 := by simpa using hat.2
   have HV := hid hv; clear hv
   have HL1 := hid hLL; clear hLL
   have HR1 := hid hrr; clear hrr
   go_wp2_with (go_at_call 97; refine trim_finA hL (by rw [HL1.out]; exact ok_divS d h0 xs ha.ok) (hat.len (Nat.zero_le _)) (by omega) (val xs / d) (by rw [HL1.out, HV.out.1]) hbl ?_; rintro e w1 ⟨⟨cc, rfl, hr1, hr2⟩, hr3⟩)
   go_ret2
   exact ⟨⟨cc, by rw [HR1.out, HV.out.2]; rfl, hr1, hr2⟩, hr3⟩
theorem divideSmall_fr (A : Option Addr) (c : Nat) (xs : List Nat) (d : Nat) (w : World) (ha : Mg w A c xs) (h0 : 0 < d) (hd : d < 4294967296) (hs : xs.length ≤ 1073741824) :
  Calls Tryz.prog 77 #[.slice A xs.length c, .int .u32 d] w (RetNRF w (val xs / d) (val xs % d)) := (divideSmall_nw A c xs d w ha h0 hd hs).mono fun _ _ h => h.1
end Go.Proofs.YtfdmlfpldgobjaaGreatDoor
/- Magnitudes: walks of fromWord, word, shiftLeft, shiftRight. Conditions: none. -/
namespace Go.Proofs.YtfdmlfpldgobjaaGreatDoor
open Go.RowKit Big
set_option maxHeartbeats 400000 in
theorem fromWord_nw (u : Nat) (w : World) (hu : u ≤ 18446744073709551615) : Calls Tryz.prog 64 #[.int .u64 u] w (RetNn w u) := by
 have hm : ∀ w1 : World, Mg (w1.alloc (.cells #[.int .u32 ((u : Int) % 4294967296), .int .u32 ((u : Int) / 4294967296)] 102)) (some ⟨w1.heap.size, 0, none⟩) 2 [u % 4294967296, u / 4294967296] := fun w1 => by
  refine ⟨Nat.le_refl _, by omega, ?_, Rd.of_blk (heap_alloc_new _ _) ?_⟩
  ·intro x hx
   simp at hx
   omega
  ·intro j hj
   match j, hj with
   | 0, _ => simp [lim]
   | 1, _ => simp [lim]
 have hv : val [u % 4294967296, u / 4294967296] = u := by simp only [val]; omega
 have ht := fun w1 => trim_at _ _ _ _ (hm w1)
 simp only [hv, List.length_cons, List.length_nil] at ht
 have HT := hid ht
 clear ht hm hv
 go_enter Tryz.func64, Tryz.ntmps64
 go_wp2_with (first | (go_at_call 96; refine (split_any _ _ (by omega) (by omega)).mono ?_; rintro e w1 ⟨rfl, hb1⟩) | (go_at_call 97; refine (HT.out _).mono ?_; rintro e w2 ⟨cc, rfl, hr1, hr2⟩))
 go_ret
 exact ⟨_, cc, rfl, hr1, (hb1.alloc hb1.size _).trans (hr2.mono (by simp; have := hb1.size; omega)), Nw.below (Nw.of_blk (heap_alloc_new _ _) hb1.size) hr2⟩
theorem fromWord_any (u : Nat) (w : World) (hu : u ≤ 18446744073709551615) : Calls Tryz.prog 64 #[.int .u64 u] w (RetN w u) := (fromWord_nw u w hu).mono fun _ _ h => h.any
set_option maxHeartbeats 400000 in
theorem word0 (A : Option Addr) (c : Nat) (w : World) : Calls Tryz.prog 112 #[.slice A 0 c] w fun e w' => e = .returned (.int .u64 0) ∧ w' = w := by
 go_enter Tryz.func112, Tryz.ntmps112
 go_wp2
 refine wp_loop_rounds 1 ?_; rw [rounds_succ]
 go_wp2
 go_ret
 exact ⟨rfl, rfl⟩
set_option maxHeartbeats 400000 in
theorem word1 (b o x c : Nat) (w : World) (hx : x < 4294967296) (h0 : w.cell? ⟨b, o, none⟩ = some (.int .u32 x)) : Calls Tryz.prog 112 #[.slice (some ⟨b, o, none⟩) 1 c] w fun e w' => e = .returned (.int .u64 x) ∧ w' = w := by
 have hor : bits .or .u64 0 (x : Int) = x := by have := or32 0 x (by omega) hx; simpa using this
 go_enter Tryz.func112, Tryz.ntmps112
 go_wp2
 refine wp_loop_rounds 2 ?_; rw [rounds_succ]
 go_wp2
 rw [rounds_succ]
 go_wp2
 go_ret
 exact ⟨rfl, rfl⟩
theorem or32' (r x : Nat) (hr : r < 4294967296) (hx : x < 4294967296) : bits .or .u64 (x : Int) ((r : Int) * 4294967296) = (x : Int) + (r : Int) * 4294967296 := by
 have e : (r : Int) * 4294967296 = ((r * 4294967296 : Nat) : Int) := by omega
 rw [e, u64_or_nat _ _ (by omega) (by omega), Nat.or_comm, nat_join 32 _ _ (by omega) (by omega)]
 omega
set_option maxHeartbeats 400000 in
theorem word2 (b o x y c : Nat) (w : World) (hx : x < 4294967296) (hy : y < 4294967296) (h0 : w.cell? ⟨b, o, none⟩ = some (.int .u32 x)) (h1 : w.cell? ⟨b, o + 1, none⟩ = some (.int .u32 y)) :
  Calls Tryz.prog 112 #[.slice (some ⟨b, o, none⟩) 2 c] w fun e w' => e = .returned (.int .u64 ((x : Int) + (y : Int) * 4294967296)) ∧ w' = w := by
 have hor : bits .or .u64 0 (x : Int) = x := by have := or32 0 x (by omega) hx; simpa using this
 have hor2 := or32' y x hy hx
 go_enter Tryz.func112, Tryz.ntmps112
 go_wp2
 refine wp_loop_rounds 3 ?_; rw [rounds_succ]
 go_wp2
 rw [rounds_succ]
 go_wp2
 rw [rounds_succ]
 go_wp2
 go_ret
 exact ⟨rfl, rfl⟩
theorem word_any (A : Option Addr) (c : Nat) (xs : List Nat) (w : World) (h : Mg w A c xs) (hl : xs.length ≤ 2) : Calls Tryz.prog 112 #[.slice A xs.length c] w fun e w' => e = .returned (.int .u64 (val xs : Nat)) ∧ Below w.heap.size w w' := by
 match xs, hl, h with
 | [], _, _ => exact (word0 A c w).mono fun e w' ⟨h1, h2⟩ => ⟨by rw [h1]; rfl, by rw [h2]; exact Below.refl _ _⟩
 | [x], _, h =>
  obtain ⟨b, o, rfl, hb, hc⟩ := h.rd.at_ (k := 0) (by simp)
  have c0 := hc 0 (by simp)
  refine (word1 b o x c w h.ok.head c0).mono fun e w' ⟨h1, h2⟩ => ⟨by rw [h1]; simp [val], by rw [h2]; exact Below.refl _ _⟩
 | [x, y], _, h =>
  obtain ⟨b, o, rfl, hb, hc⟩ := h.rd.at_ (k := 0) (by simp)
  have c0 := hc 0 (by simp)
  have c1 := hc 1 (by simp)
  refine (word2 b o x y c w h.ok.head h.ok.tail.head c0 c1).mono fun e w' ⟨h1, h2⟩ => ⟨by rw [h1]; exact ret_int (by simp only [val]; omega), by rw [h2]; exact Below.refl _ _⟩
 | _ :: _ :: _ :: _, hl, _ => simp at hl
def ShlAt (m : Nat) (xs : List Nat) (k : Nat) (L : List Nat) : Prop :=
 ∃ (D : List Nat) (q : Nat), D.length = k ∧ q < m ∧ L = D ++ q :: List.replicate (xs.length - k) 0 ∧ shl m xs 0 = D ++ shl m (xs.drop k) q
theorem ShlAt.len {m : Nat} {xs L : List Nat} {k : Nat} (h : ShlAt m xs k L) (hk : k ≤ xs.length) : L.length = xs.length + 1 := by
 obtain ⟨D, q, h1, _, h2, _⟩ := h; subst h2; simp; omega
theorem ShlAt.start (m : Nat) (xs : List Nat) (hm : 0 < m) : ShlAt m xs 0 (List.replicate (xs.length + 1) 0) := ⟨[], 0, rfl, hm, by simp [List.replicate_succ], by simp⟩
theorem ShlAt.got {m : Nat} {xs L : List Nat} {k : Nat} (h : ShlAt m xs k L) (hL : k < L.length) : L[k] < m := by
 obtain ⟨D, q, h1, h2, h3, _⟩ := h
 subst h3; subst h1
 simpa using h2
theorem ShlAt.step {m : Nat} {xs L : List Nat} {k : Nat} (h : ShlAt m xs k L) (hx : k < xs.length) (ho : xs[k] < 4294967296) (hL : k < L.length) :
  ShlAt m xs (k + 1) ((L.set k (L[k] + xs[k] * m % 4294967296)).set (k + 1) (xs[k] * m / 4294967296)) := by
 obtain ⟨D, q, h1, h2, h3, h4⟩ := h
 have e : L[k] = q := by subst h3; subst h1; simp
 rw [e]
 refine ⟨D ++ [q + xs[k] * m % 4294967296], xs[k] * m / 4294967296, by simp [h1], ?_, ?_, ?_⟩
 ·rw [Nat.div_lt_iff_lt_mul (by omega), Nat.mul_comm m]; exact Nat.mul_lt_mul_of_pos_right ho (by omega)
 ·obtain ⟨j, hj⟩ : ∃ j, xs.length - k = j + 1 := ⟨xs.length - k - 1, by omega⟩
  rw [h3, hj, List.replicate_succ, List.set_append_right _ _ (by omega), List.set_append_right _ _ (by omega), h1, show k - k = 0 by omega, show k + 1 - k = 1 by omega, show xs.length - (k + 1) = j by omega]
  simp
 ·rw [h4, List.drop_eq_getElem_cons hx, shl, Nat.add_comm q]
  simp
theorem ShlAt.last {m : Nat} {xs L : List Nat} (h : ShlAt m xs xs.length L) : L = shl m xs 0 := by
 obtain ⟨D, q, h1, _, h2, h3⟩ := h
 rw [h3, h2, List.drop_length, shl]; simp
/-- a new row of limbs, of the call's own -/
def RetL (w : World) (L : List Nat) (e : Ending) (w' : World) : Prop :=
 ∃ g, w.heap.size ≤ g ∧ e = .returned (.slice (some ⟨g, 0, none⟩) L.length L.length) ∧ LB w' g L ∧ Below w.heap.size w w'
theorem pow_cases {n : Nat} (hn : n ≤ 31) : 0 < 2 ^ n ∧ 2 ^ n ≤ 2147483648 ∧ 2 ^ n * 2 ^ (32 - n) = 4294967296 := by
 refine ⟨Nat.pow_pos (by omega), ?_, ?_⟩
 ·have := Nat.pow_le_pow_right (n := 2) (by omega) hn; simpa using this
 ·rw [← Nat.pow_add, show n + (32 - n) = 32 by omega]
set_option maxHeartbeats 1000000 in
theorem shiftLeft_any (A : Option Addr) (c n : Nat) (xs : List Nat) (w : World) (ha : Mg w A c xs) (hn : n ≤ 31) (hs : xs.length ≤ 1073741824) :
  Calls Tryz.prog 98 #[.slice A xs.length c, .int .i64 n] w (RetL w (shl (2 ^ n) xs 0)) := by
 have hmk := make32 (xs.length + 1) (by omega)
 rw [show ((xs.length + 1 : Nat) : Int) = (xs.length : Int) + 1 from by omega] at hmk
 obtain ⟨pm0, pm1, pm2⟩ := pow_cases hn
 have HP := hid pm2
 clear pm2
 go_enter Tryz.func98, Tryz.ntmps98
 go_wp2
 go_loopw [15] (fun i wr => ∃ (k : Nat) (L : List Nat), k ≤ xs.length ∧ i = .int .i64 k ∧ Below w.heap.size w wr ∧ LB wr w.heap.size L ∧ ShlAt (2 ^ n) xs k L) (fun i _ => xs.length - (intOf i).toNat)
 case atStart => exact ⟨0, _, Nat.zero_le _, rfl, (Below.refl _ _).alloc (Nat.le_refl _) _, LB.made w (xs.length + 1), .start _ _ pm0⟩
 case round =>
  obtain ⟨k, L, hk, rfl, hbl, hL, hat⟩ := hrel
  have hgl := hL.lt
  have hwz := hbl.size
  by_cases hkl : k < xs.length
  ·have hkL : k < L.length := by rw [hat.len hk]; omega
   have hkL1 : k + 1 < L.length := by rw [hat.len hk]; omega
   have cell0 := hL.cell k hkL
   have cell1 := hL.cell (k + 1) hkL1
   have free0 := hL.free k
   have free1 := hL.free (k + 1)
   obtain ⟨ba, oa, rfl, hba, hca⟩ := ha.rd.at_ hkl
   have c1 := (hbl.cell (p := ⟨ba, oa + k, none⟩) hba).trans (hca k hkl)
   have o1 := ha.ok.get hkl
   have hba2 : ba < wr.heap.size := by omega
   unfold lim at c1
   clear hca
   have hst := hat.step hkl o1 hkL
   have hlk := hat.got hkL
   have hpb : xs[k] * 2 ^ n ≤ 4294967295 * 2147483648 := Nat.mul_le_mul (by omega) pm1
   have hpow : IntKind.u64.wrap ((xs[k] : Int) * 2 ^ n) = ((xs[k] * 2 ^ n : Nat) : Int) := by
    rw [show (xs[k] : Int) * 2 ^ n = ((xs[k] * 2 ^ n : Nat) : Int) by push_cast; rfl, IntKind.wrap_u64]; omega
   have hj := shl_or (x := xs[k]) (c := L[k]) (n := n) HP.out rfl hlk
   have hor : bits .or .u32 (L[k] : Int) (((xs[k] * 2 ^ n : Nat) : Int) % 4294967296) = ((L[k] + xs[k] * 2 ^ n % 4294967296 : Nat) : Int) := by
    rw [show ((xs[k] * 2 ^ n : Nat) : Int) % 4294967296 = ((xs[k] * 2 ^ n % 4294967296 : Nat) : Int) by omega, u32_or_nat _ _ (by omega) (by omega), Nat.or_comm, nat_join n _ _ hj hlk, Nat.add_comm]
   generalize xs[k] * 2 ^ n = p at *
   clear hj hlk
   go_wp2_with (go_at_call 96; refine (split_any _ _ (by omega) (by omega)).mono ?_; rintro e w1 ⟨rfl, hb1⟩; obtain ⟨hc1, hf1⟩ := bcell hb1; have hgl1 := Nat.lt_of_lt_of_le hgl hb1.size)
   go_region
   go_wp2
   go_roundw
   case rel => exact ⟨k + 1, _, by omega, by go_num, (by repeat (first | exact hbl | exact hbl.trans (hb1.mono hwz) | refine Below.drew ?_ | refine below_drewN ?_ _ | refine Below.setCell ?_ (by exact Nat.le_refl _) _ | refine Below.alloc ?_ (by simp; omega) _)), (by repeat (first | exact hL | exact hL.below hb1 hgl | refine LB.drew ?_ | refine LB.drewN ?_ _ | refine LB.alloc ?_ _ | refine LB.set_ ?_ _ _ _ (by omega))), hst⟩
   case measure => simp [intOf]; omega
  ·obtain rfl : k = xs.length := by omega
   have e := hat.last
   have hl := hat.len (Nat.le_refl _)
   go_wp2
   go_ret
   exact ⟨_, Nat.le_refl _, by rw [length_shl]; rfl, by rw [← e]; exact hL, hbl⟩
def ShrAt (m : Nat) (xs : List Nat) (k : Nat) (L : List Nat) : Prop :=
 ∃ D : List Nat, D.length = k ∧ L = D ++ List.replicate (xs.length - k) 0 ∧ shrL m xs = D ++ shrL m (xs.drop k)
theorem ShrAt.len {m : Nat} {xs L : List Nat} {k : Nat} (h : ShrAt m xs k L) (hk : k ≤ xs.length) : L.length = xs.length := by
 obtain ⟨D, h1, h2, _⟩ := h; subst h2; simp; omega
theorem ShrAt.start (m : Nat) (xs : List Nat) : ShrAt m xs 0 (List.replicate xs.length 0) := ⟨[], rfl, by simp, by simp⟩
theorem ShrAt.two {m : Nat} {xs L : List Nat} {k : Nat} (h : ShrAt m xs k L) (hx : k + 1 < xs.length) :
  ShrAt m xs (k + 1) (L.set k ((xs[k] + 4294967296 * xs[k + 1]) / m % 4294967296)) := by
 obtain ⟨D, h1, h2, h3⟩ := h
 refine ⟨D ++ [(xs[k] + 4294967296 * xs[k + 1]) / m % 4294967296], by simp [h1], ?_, ?_⟩
 ·rw [h2, set_zeros D _ _ k h1 (by omega)]; congr 2
 ·rw [h3, List.drop_eq_getElem_cons (by omega : k < xs.length), List.drop_eq_getElem_cons hx, shrL]
  simp
theorem ShrAt.one {m : Nat} {xs L : List Nat} {k : Nat} (h : ShrAt m xs k L) (hk : k < xs.length) (hx : xs.length = k + 1) :
  ShrAt m xs (k + 1) (L.set k (xs[k] / m % 4294967296)) := by
 obtain ⟨D, h1, h2, h3⟩ := h
 refine ⟨D ++ [xs[k] / m % 4294967296], by simp [h1], ?_, ?_⟩
 ·rw [h2, set_zeros D _ _ k h1 (by omega)]; congr 2
 ·rw [h3, List.drop_eq_getElem_cons (by omega : k < xs.length), List.drop_of_length_le (by omega : xs.length ≤ k + 1), shrL]
  simp [shrL]
theorem ShrAt.last {m : Nat} {xs L : List Nat} (h : ShrAt m xs xs.length L) : L = shrL m xs := by
 obtain ⟨D, h1, h2, h3⟩ := h
 rw [h3, h2, List.drop_length, shrL]; simp
theorem shr_two (x y n : Nat) : ((x : Int) + (y : Int) * 4294967296) / 2 ^ n % 4294967296 = (((x + 4294967296 * y) / 2 ^ n % 4294967296 : Nat) : Int) := by
 rw [show (x : Int) + (y : Int) * 4294967296 = ((x + 4294967296 * y : Nat) : Int) by omega, show (2 : Int) ^ n = ((2 ^ n : Nat) : Int) by push_cast; rfl, ← Int.natCast_ediv]
 exact (Int.natCast_emod _ _).symm
theorem shr_one (x n : Nat) : (x : Int) / 2 ^ n % 4294967296 = ((x / 2 ^ n % 4294967296 : Nat) : Int) := by
 rw [show (2 : Int) ^ n = ((2 ^ n : Nat) : Int) by push_cast; rfl, ← Int.natCast_ediv]
 exact (Int.natCast_emod _ _).symm
set_option maxHeartbeats 1000000 in
theorem shiftRight_any (A : Option Addr) (c n : Nat) (xs : List Nat) (w : World) (ha : Mg w A c xs) (hn : n ≤ 31) (hs : xs.length ≤ 1073741824) :
  Calls Tryz.prog 100 #[.slice A xs.length c, .int .i64 n] w (RetN w (val xs / 2 ^ n)) := by
 have hmk := make32 xs.length (by omega)
 obtain ⟨pm0, pm1, pm2⟩ := pow_cases hn
 have HP := hid pm2
 clear pm2
 go_enter Tryz.func100, Tryz.ntmps100
 go_wp2
 go_loopw [14] (fun i wr => ∃ (k : Nat) (L : List Nat), k ≤ xs.length ∧ i = .int .i64 k ∧ Below w.heap.size w wr ∧ LB wr w.heap.size L ∧ ShrAt (2 ^ n) xs k L) (fun i _ => xs.length - (intOf i).toNat)
 case atStart => exact ⟨0, _, Nat.zero_le _, rfl, (Below.refl _ _).alloc (Nat.le_refl _) _, LB.made w xs.length, .start _ _⟩
 case round =>
  obtain ⟨k, L, hk, rfl, hbl, hL, hat⟩ := hrel
  have hgl := hL.lt
  have hwz := hbl.size
  by_cases hkl : k < xs.length
  ·have hkL : k < L.length := by rw [hat.len hk]; omega
   have cell0 := hL.cell k hkL
   have free0 := hL.free k
   obtain ⟨ba, oa, rfl, hba, hca⟩ := ha.rd.at_ hkl
   have c1 := (hbl.cell (p := ⟨ba, oa + k, none⟩) hba).trans (hca k hkl)
   have o1 := ha.ok.get hkl
   have hba2 : ba < wr.heap.size := by omega
   unfold lim at c1
   by_cases hk1 : k + 1 < xs.length
   ·have c2 := (hbl.cell (p := ⟨ba, oa + (k + 1), none⟩) hba).trans (hca (k + 1) hk1)
    have o2 := ha.ok.get hk1
    unfold lim at c2
    clear hca
    have hor := or32' xs[k + 1] xs[k] o2 o1
    have hs2 := shr_two xs[k] xs[k + 1] n
    have hst := hat.two hk1
    generalize (xs[k] + 4294967296 * xs[k + 1]) / 2 ^ n % 4294967296 = V at hs2 hst
    go_wp2
    go_roundw
    case rel => exact ⟨k + 1, _, by omega, by go_num, (by repeat (first | exact hbl | refine Below.drew ?_ | refine below_drewN ?_ _ | refine Below.setCell ?_ (by exact Nat.le_refl _) _ | refine Below.alloc ?_ (by simp; omega) _)), (by repeat (first | exact hL | refine LB.drew ?_ | refine LB.set_ ?_ _ _ _ rfl)), hst⟩
    case measure => simp [intOf]; omega
   ·clear hca
    have hs1 := shr_one xs[k] n
    have hst := hat.one hkl (by omega)
    generalize xs[k] / 2 ^ n % 4294967296 = V at hs1 hst
    go_wp2
    go_roundw
    case rel => exact ⟨k + 1, _, by omega, by go_num, (by repeat (first | exact hbl | refine Below.drew ?_ | refine below_drewN ?_ _ | refine Below.setCell ?_ (by exact Nat.le_refl _) _ | refine Below.alloc ?_ (by simp; omega) _)), (by repeat (first | exact hL | refine LB.drew ?_ | refine LB.set_ ?_ _ _ _ rfl)), hst⟩
    case measure => simp [intOf]; omega
  ·obtain rfl : k = xs.length := by omega
   go_wp2_with (go_at_call 97; refine trim_fin hL (by rw [hat.last]; exact ok_shrL _ _) (hat.len (Nat.le_refl _)) (by omega) (val xs / 2 ^ n) (by rw [hat.last, val_shrL HP.out xs ha.ok]) hbl ?_; rintro e w1 ⟨R, cc, rfl, hr1, hr2⟩)
   go_ret
   exact ⟨R, cc, rfl, hr1, hr2⟩
end Go.Proofs.YtfdmlfpldgobjaaGreatDoor
/- Magnitudes: the walk of multiply. Conditions: none. -/
namespace Go.Proofs.YtfdmlfpldgobjaaGreatDoor
open Go.RowKit Big
def MulAt (xs ys : List Nat) (k : Nat) (L : List Nat) : Prop :=
 ∃ D acc : List Nat, D.length = k ∧ acc.length = ys.length ∧ Ok acc ∧ L = D ++ acc ++ List.replicate (xs.length - k) 0 ∧ mulL xs ys (List.replicate ys.length 0) = D ++ mulL (xs.drop k) ys acc
def MulIn (xs ys : List Nat) (k j q : Nat) (L : List Nat) : Prop :=
 ∃ D acc N : List Nat, D.length = k ∧ acc.length = ys.length ∧ N.length = j ∧ Ok acc ∧ L = D ++ N ++ acc.drop j ++ List.replicate (xs.length - k) 0 ∧ mulL xs ys (List.replicate ys.length 0) = D ++ mulL (xs.drop k) ys acc ∧
  mulRow (xs.getD k 0) ys acc 0 = N ++ mulRow (xs.getD k 0) (ys.drop j) (acc.drop j) q
theorem MulAt.len {xs ys L : List Nat} {k : Nat} (h : MulAt xs ys k L) (hk : k ≤ xs.length) : L.length = xs.length + ys.length := by
 obtain ⟨D, acc, h1, h2, _, h3, _⟩ := h; subst h3; simp; omega
theorem MulIn.len {xs ys L : List Nat} {k j q : Nat} (h : MulIn xs ys k j q L) (hk : k ≤ xs.length) (hj : j ≤ ys.length) : L.length = xs.length + ys.length := by
 obtain ⟨D, acc, N, h1, h2, h3, _, h4, _⟩ := h; subst h4; simp; omega
theorem MulAt.start (xs ys : List Nat) : MulAt xs ys 0 (List.replicate (xs.length + ys.length) 0) :=
 ⟨[], List.replicate ys.length 0, rfl, by simp, Ok.rep _, by simp [Nat.add_comm], by simp⟩
theorem MulAt.inner {xs ys L : List Nat} {k : Nat} (h : MulAt xs ys k L) : MulIn xs ys k 0 0 L := by
 obtain ⟨D, acc, h1, h2, h3, h4, h5⟩ := h
 exact ⟨D, acc, [], h1, h2, rfl, h3, by simpa using h4, h5, by simp⟩
theorem MulIn.got {xs ys L : List Nat} {k j q : Nat} (h : MulIn xs ys k j q L) (hj : j < ys.length) (hL : k + j < L.length) : L[k + j] < 4294967296 := by
 obtain ⟨D, acc, N, h1, h2, h3, h4, h5, _⟩ := h
 have e : L[k + j]? = acc[j]? := by
  rw [h5, List.append_assoc, List.append_assoc, List.getElem?_append_right (by omega), List.getElem?_append_right (by omega), h1, h3, show k + j - k - j = 0 by omega, List.getElem?_append_left (by simp; omega)]
  simp
 rw [List.getElem?_eq_getElem hL, List.getElem?_eq_getElem (by omega)] at e
 rw [Option.some.inj e]
 exact h4.get (by omega)
theorem MulIn.step {xs ys L : List Nat} {k j q : Nat} (h : MulIn xs ys k j q L) (hk : k < xs.length) (hj : j < ys.length) (hL : k + j < L.length) :
  MulIn xs ys k (j + 1) ((xs[k] * ys[j] + L[k + j] + q) / 4294967296) (L.set (k + j) ((xs[k] * ys[j] + L[k + j] + q) % 4294967296)) := by
 obtain ⟨D, acc, N, h1, h2, h3, h4, h5, h6, h7⟩ := h
 have e : L[k + j]? = acc[j]? := by
  rw [h5, List.append_assoc, List.append_assoc, List.getElem?_append_right (by omega), List.getElem?_append_right (by omega), h1, h3, show k + j - k - j = 0 by omega, List.getElem?_append_left (by simp; omega)]
  simp
 have hja : j < acc.length := by omega
 rw [List.getElem?_eq_getElem hL, List.getElem?_eq_getElem hja] at e
 have e' := Option.some.inj e
 rw [e']
 have hxk : xs.getD k 0 = xs[k] := by simp [hk]
 rw [hxk] at h7
 refine ⟨D, acc, N ++ [(xs[k] * ys[j] + acc[j] + q) % 4294967296], h1, h2, by simp [h3], h4, ?_, h6, ?_⟩
 ·rw [h5, List.drop_eq_getElem_cons hja, List.append_assoc, List.append_assoc, List.set_append_right _ _ (by omega), List.set_append_right _ _ (by omega), h1, h3, show k + j - k - j = 0 by omega, List.cons_append, List.set_cons_zero]
  simp
 ·rw [hxk, h7, List.drop_eq_getElem_cons hj, List.drop_eq_getElem_cons hja, mulRow]
  simp
theorem MulIn.done {xs ys L : List Nat} {k q : Nat} (h : MulIn xs ys k ys.length q L) (hx : Ok xs) (hy : Ok ys) (hq : q < 4294967296) (hk : k < xs.length) : MulAt xs ys (k + 1) (L.set (k + ys.length) q) := by
 obtain ⟨D, acc, N, h1, h2, h3, h4, h5, h6, h7⟩ := h
 have hxk : xs.getD k 0 = xs[k] := by simp [hk]
 rw [hxk, List.drop_length, mulRow] at h7
 have hrow := ok_mulRow xs[k] ys acc 0 (hx.get hk) hy h4 (by omega)
 have hlen := length_mulRow xs[k] ys acc 0
 rw [List.drop_eq_getElem_cons hk, mulL] at h6
 rw [h7] at hrow hlen h6
 rw [List.drop_of_length_le (by omega), List.append_nil] at h5
 have hset : L.set (k + ys.length) q = D ++ (N ++ [q]) ++ List.replicate (xs.length - (k + 1)) 0 := by
  rw [h5, List.set_append_right _ _ (by simp; omega)]
  obtain ⟨m, hm⟩ : ∃ m, xs.length - k = m + 1 := ⟨xs.length - k - 1, by omega⟩
  rw [hm, show k + ys.length - (D ++ N).length = 0 by simp; omega, List.replicate_succ, show xs.length - (k + 1) = m by omega]
  simp
 rw [hset]
 cases hN : N ++ [q] with
 | nil => simp at hN
 | cons r row =>
  rw [hN] at hrow hlen h6
  refine ⟨D ++ [r], row, by simp [h1], by simp at hlen; exact hlen, hrow.tail, by simp, ?_⟩
  rw [h6]; simp
theorem MulAt.last {xs ys L : List Nat} (h : MulAt xs ys xs.length L) : L = mulL xs ys (List.replicate ys.length 0) := by
 obtain ⟨D, acc, h1, h2, _, h3, h4⟩ := h
 rw [h4, h3, List.drop_length, mulL]; simp
set_option maxHeartbeats 2000000 in
theorem multiply_any (A B : Option Addr) (c d : Nat) (xs ys : List Nat) (w : World) (ha : Mg w A c xs) (hb : Mg w B d ys) (hs : xs.length ≤ 1073741824) (ht : ys.length ≤ 1073741824) :
  Calls Tryz.prog 113 #[.slice A xs.length c, .slice B ys.length d] w (RetN w (val xs * val ys)) := by
 have hmk := make32 (xs.length + ys.length) (by omega)
 rw [show ((xs.length + ys.length : Nat) : Int) = (xs.length : Int) + (ys.length : Int) from by omega] at hmk
 go_enter Tryz.func113, Tryz.ntmps113
 go_wp2
 go_loopw [20] (fun i wr => ∃ (k : Nat) (L : List Nat), k ≤ xs.length ∧ i = .int .i64 k ∧ Below w.heap.size w wr ∧ LB wr w.heap.size L ∧ MulAt xs ys k L) (fun i _ => xs.length - (intOf i).toNat)
 case atStart => exact ⟨0, _, Nat.zero_le _, rfl, (Below.refl _ _).alloc (Nat.le_refl _) _, LB.made w (xs.length + ys.length), .start _ _⟩
 case round =>
  obtain ⟨k, L0, hk, rfl, hbl0, hL0, hat0⟩ := hrel
  obtain ⟨wo, rfl⟩ : ∃ wo : World, wo = wr := ⟨_, rfl⟩
  by_cases hkl : k < xs.length
  ·obtain ⟨ba, oa, rfl, hba, hca⟩ := ha.rd.at_ hkl
   have c1 := (hbl0.cell (p := ⟨ba, oa + k, none⟩) hba).trans (hca k hkl)
   have o1 := ha.ok.get hkl
   unfold lim at c1
   clear hca
   go_wp2
   go_loopw [8, 27] (fun cr i wr => ∃ (j q : Nat) (L : List Nat), j ≤ ys.length ∧ i = .int .i64 j ∧ cr = .int .u32 q ∧ q < 4294967296 ∧ Below w.heap.size w wr ∧ LB wr w.heap.size L ∧ MulIn xs ys k j q L) (fun _ i _ => ys.length - (intOf i).toNat)
   case atStart => exact ⟨0, 0, L0, Nat.zero_le _, rfl, rfl, by omega, hbl0, hL0, hat0.inner⟩
   case round =>
    obtain ⟨j, q, L, hj, rfl, rfl, hq, hbl, hL, hat⟩ := hrel
    clear c1 hbl0 hL0 hat0
    have hgl := hL.lt
    have hwz := hbl.size
    have hkL : k + j < L.length := by rw [hat.len hk hj]; omega
    have cell0 := hL.cell (k + j) hkL
    have free0 := hL.free (k + j)
    by_cases hjl : j < ys.length
    ·obtain ⟨bb, ob, rfl, hbb, hcb⟩ := hb.rd.at_ hjl
     have c2 := (hbl.cell (p := ⟨bb, ob + j, none⟩) hbb).trans (hcb j hjl)
     have o2 := hb.ok.get hjl
     have o3 := hat.got hjl hkL
     have hbb2 : bb < wr.heap.size := by omega
     unfold lim at c2
     clear hcb
     obtain ⟨p0, p1⟩ := prod_bd xs[k] ys[j] o1 o2
     have hmb := mul_bound o1 o2 o3 hq
     go_wp2_with (go_at_call 96; refine (split_any _ _ (by omega) (by omega)).mono ?_; rintro e w1 ⟨rfl, hb1⟩; obtain ⟨hc1, hf1⟩ := bcell hb1; have hgl1 := Nat.lt_of_lt_of_le hgl hb1.size)
     go_region
     go_wp2
     go_roundw
     case rel => exact ⟨j + 1, (xs[k] * ys[j] + L[k + j] + q) / 4294967296, L.set (k + j) ((xs[k] * ys[j] + L[k + j] + q) % 4294967296), by omega, by go_num, val_i (by rw [muladd]; omega), by omega, (by repeat (first | exact hbl | exact hbl.trans (hb1.mono hwz) | refine Below.drew ?_ | refine below_drewN ?_ _ | refine Below.setCell ?_ (by exact Nat.le_refl _) _ | refine Below.alloc ?_ (by simp; omega) _)), (by repeat (first | exact hL | exact hL.below hb1 hgl | refine LB.drew ?_ | refine LB.drewN ?_ _ | refine LB.alloc ?_ _ | refine LB.set_ ?_ _ _ _ (by rw [muladd]; omega))), hat.step hkl hjl hkL⟩
     case measure => simp [intOf]; omega
    ·obtain rfl : j = ys.length := by omega
     go_wp2
     go_roundw
     case rel => exact ⟨k + 1, L.set (k + ys.length) q, by omega, by go_num, (by repeat (first | exact hbl | refine Below.drew ?_ | refine below_drewN ?_ _ | refine Below.setCell ?_ (by exact Nat.le_refl _) _ | refine Below.alloc ?_ (by simp; omega) _)), hL.set_ _ _ _ rfl, hat.done ha.ok hb.ok hq hkl⟩
     case measure => simp [intOf]; omega
  ·obtain rfl : k = xs.length := by omega
   go_wp2_with (go_at_call 97; refine trim_fin hL0 (by rw [hat0.last]; exact ok_mulL _ _ _ ha.ok hb.ok (Ok.rep _)) (hat0.len (Nat.le_refl _)) (by omega) (val xs * val ys) (by rw [hat0.last, val_mulL _ _ _ (by simp), val_rep, Nat.add_zero]) hbl0 ?_; rintro e w1 ⟨R, cc, rfl, hr1, hr2⟩)
   go_ret
   exact ⟨R, cc, rfl, hr1, hr2⟩
end Go.Proofs.YtfdmlfpldgobjaaGreatDoor
