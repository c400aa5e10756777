/- The reference: walks of short, longer. Conditions: none. -/
import Derived.Test.YtkfpcohdbbhmaaaDoorR9
namespace Go.Proofs.YtkfpcohdbbhmaaaDoor
set_option linter.unusedVariables false
set_option linter.unusedSimpArgs false
open Go.RowKit Big

/-- the quotient's limbs in new memory and a small remainder -/
def RetSF (w : World) (q r : Nat) (e : Ending) (w' : World) : Prop :=
  ∃ A c, e = .returned (.tuple #[.slice A (limbs q).length c, .int .u64 r]) ∧ Mg w' A c (limbs q) ∧ Below w.heap.size w w' ∧ Hid (∀ p, A = some p → w.heap.size ≤ p.block)

set_option maxHeartbeats 1000000 in
theorem Rshort_fr (A : Option Addr) (c : Nat) (xs : List Nat) (d : Nat) (w : World) (ha : Mg w A c xs) (h0 : 0 < d) (hd : d ≤ 65536) (hs : xs.length ≤ 1048576) :
    Calls Tryd.prog 73 #[.slice A xs.length c, .int .u64 d] w (RetSF w (val xs / d) (val xs % d)) := by
  have hmk := make32 xs.length (by omega)
  go_enter Tryd.func73, Tryd.ntmps73
  go_wp2
  go_loopw [7, 8] (fun rr i wr => ∃ (k r : Nat) (L : List Nat), k ≤ xs.length ∧ i = .int .i64 ((k : Int) - 1) ∧ rr = .int .u64 r ∧ Below w.heap.size w wr ∧ LB wr w.heap.size L ∧ DivAt d xs k r L) (fun _ i _ => (intOf i + 1).toNat)
  case atStart => exact ⟨xs.length, 0, _, Nat.le_refl _, rfl, rfl, (Below.refl _ _).alloc (Nat.le_refl _) _, LB.made w xs.length, .start _ _⟩
  case round =>
    obtain ⟨k, r, L, hk, rfl, rfl, hbl, hL, hat⟩ := hrel
    have hgl := hL.lt
    have hr := hat.lt h0
    by_cases hk0 : 0 < k
    · have hk1 : k - 1 < xs.length := by omega
      have hkL : k - 1 < L.length := by rw [hat.len hk]; exact hk1
      have cell0 := hL.cell (k - 1) hkL
      have free0 := hL.free (k - 1)
      have hwz := hbl.size
      obtain ⟨ba, oa, rfl, hba, hca⟩ := ha.rd.at_ hk1
      have c1 := (hbl.cell (p := ⟨ba, oa + (k - 1), none⟩) hba).trans (hca (k - 1) hk1)
      have o1 := ha.ok.get hk1
      have hba2 : ba < wr.heap.size := by omega
      unfold lim at c1
      clear hca
      have hq := div_lt_B hr o1
      have hq1 : ((r : Int) * 4294967296 + (xs[k - 1] : Int)) / (d : Int) = (((r * 4294967296 + xs[k - 1]) / d : Nat) : Int) := cast_div r _ d
      have hq2 : ((r : Int) * 4294967296 + (xs[k - 1] : Int)) % (d : Int) = (((r * 4294967296 + xs[k - 1]) % d : Nat) : Int) := cast_mod r _ d
      have hm := Nat.mod_lt (r * 4294967296 + xs[k - 1]) h0
      have HS := hid (hat.step hk0 hk1)
      generalize (r * 4294967296 + xs[k - 1]) / d = Q at *
      generalize (r * 4294967296 + xs[k - 1]) % d = R at *
      go_wp2
      go_roundw
      case rel => exact ⟨k - 1, R, L.set (k - 1) Q, by omega, by go_num, by first | rfl | rw [hq2], (by repeat (first | exact hbl | refine Below.drew ?_ | refine below_drewN ?_ _ | refine Below.setCell ?_ (by exact Nat.le_refl _) _ | refine Below.alloc ?_ (by simp; omega) _)), (by repeat (first | exact hL | refine LB.drew ?_ | refine LB.drewN ?_ _ | refine LB.set_ ?_ _ _ _ rfl)), HS.out⟩
      case measure => simp [intOf]; omega
    · obtain rfl : k = 0 := by omega
      have hv := divS_eq d h0 xs
      have hLL : L = (divS d xs).1 := by simpa using hat.1
      have hrr : r = (divS d xs).2 := by simpa using hat.2
      have HR1 := hid (hrr.trans hv.2)
      have HT := RTrim_fr _ _ _ _ (hL.mg (by rw [hLL]; exact ok_divS d h0 xs ha.ok) (by rw [hat.len (Nat.zero_le _)]; omega)) (by rw [hat.len (Nat.zero_le _)]; omega)
      rw [hat.len (Nat.zero_le _), show val L = val xs / d by rw [hLL, hv.1]] at HT
      have HT := hid HT
      have hsz := hbl.size
      clear hv hLL hrr
      go_wp2_with (go_at_call 90; refine HT.out.mono ?_; rintro e w1 ⟨R1, c1, rfl, hr1, h1, hf⟩)
      go_ret2
      exact ⟨R1, c1, by rw [← HR1.out]; rfl, hr1, hbl.trans (h1.mono hsz), fun p hp => Nat.le_trans hsz (hf.out p hp)⟩

set_option maxHeartbeats 1000000 in
theorem Rlonger_fr (A : Option Addr) (c : Nat) (xs : List Nat) (by_ more : Nat) (w : World) (ha : Mg w A c xs) (hb : by_ ≤ 65536) (hm : more ≤ 65536) (hs : xs.length ≤ 1048576) :
    Calls Tryd.prog 66 #[.slice A xs.length c, .int .u64 by_, .int .u64 more] w (RetNF w (val xs * by_ + more)) := by
  go_enter Tryd.func66, Tryd.ntmps66
  go_wp2
  go_loopw [7, 8, 9] (fun s7 s8 s9 wr => ∃ (k q : Nat) (v : Value) (D : List Nat), k ≤ xs.length ∧ s9 = .int .i64 k ∧ s8 = .int .u64 q ∧ q < 4294967296 ∧ s7 = v ∧ wr.ownsRow w.heap.size 57 1 v D.length (D.map lim) ∧ Below w.heap.size w wr ∧ Hid (Cry (val xs * by_ + more) k q (val (xs.drop k) * by_) D)) (fun _ _ s9 _ => xs.length - (intOf s9).toNat)
  case atStart => exact ⟨0, more, _, [], by omega, rfl, rfl, by omega, rfl, World.ownsRow_nil _ _ _ _, Below.refl _ _, by unfold Hid; have := Cry.start more (val xs * by_); rw [Nat.add_comm] at this; simpa using this⟩
  case round =>
    obtain ⟨k, q, v, D, hk, rfl, rfl, hq, rfl, hown, hbl, hc⟩ := hrel
    have hD := hc.out.len
    have hsz := hbl.size
    by_cases h0 : k < xs.length
    · obtain ⟨ba, oa, rfl, hba, hca⟩ := ha.rd.at_ h0
      have c1 := (hbl.cell (p := ⟨ba, oa + k, none⟩) hba).trans (hca k h0)
      have o1 := ha.ok.get h0
      unfold lim at c1
      clear hca
      have HC := hid (fun (s : Nat) (hs2 : s = xs[k] * by_ + q) => hc.out.step (t := xs[k] * by_) (R' := val (xs.drop (k + 1)) * by_) (s := s) (by rw [val_drop xs k, lb_at h0, Nat.add_mul, Nat.mul_assoc]) hs2)
      clear hc
      generalize xs[k] = x at *
      have hP : (x : Int) * (by_ : Int) = ((x * by_ : Nat) : Int) := (Int.natCast_mul _ _).symm
      have hPb : x * by_ ≤ 4294967295 * 65536 := Nat.mul_le_mul (by omega) hb
      generalize x * by_ = P at *
      obtain ⟨m, hm_⟩ : ∃ m, (P + q) % 4294967296 = m := ⟨_, rfl⟩
      obtain ⟨u, hu⟩ : ∃ u, (P + q) / 4294967296 = u := ⟨_, rfl⟩
      have hm1 : ((P : Int) + (q : Int)) % 4294967296 = (m : Int) := by omega
      have hu1 : ((P : Int) + (q : Int)) / 4294967296 = (u : Int) := by omega
      have hm2 : m < 4294967296 := by omega
      have hu2 : u < 4294967296 := by omega
      have HC2 := hid (HC.out _ rfl)
      rw [hm_, hu] at HC2
      clear HC hm_ hu
      go_wp2_with (at_builtin; refine wpList_app rfl (.tmp 27) (.tmp 31) 22 rfl 57 (.int .u32 0) 4 Tryd.underlying22 info32 rfl w.heap.size lim (fun _ => rfl) _ D rfl (own_below hown ((Below.refl _ _).alloc (Nat.le_refl _) (.cells #[.int .u32 (m : Int)] 57))) _ 1 [m] rfl (rd_one lim _ m 57) (by simp; omega) (by simp; omega) (by simp; omega) ?_; intro v5 w5 hown5 hgr hwh)
      go_roundw
      case rel => exact ⟨k + 1, u, v5, D ++ [m], by omega, by go_num, by rw [hu1], hu2, rfl, hown5, below_app1 hown hbl hgr, HC2⟩
      case measure => simp [intOf]; omega
    · obtain rfl : k = xs.length := by omega
      have hl := hc.out
      rw [val_out xs (Nat.le_refl _), Nat.zero_mul] at hl
      have hv := hid hl.last
      have hok := hid (ok_snoc hl.ok hq)
      clear hc hl
      go_wp2_with (first | (at_builtin; refine wpList_app rfl (.tmp 35) (.tmp 38) 22 rfl 57 (.int .u32 0) 4 Tryd.underlying22 info32 rfl w.heap.size lim (fun _ => rfl) _ D rfl (own_below hown ((Below.refl _ _).alloc (Nat.le_refl _) (.cells #[.int .u32 (q : Int)] 57))) _ 1 [q] rfl (rd_one lim _ q 57) (by simp; omega) (by simp; omega) (by simp; omega) ?_; intro v5 w5 hown5 hgr hwh; have hb5 := below_app1 hown hbl hgr) | (go_at_call 90; refine (own_trim hown5 hb5 hok.out (by simp; omega) hv.out).mono ?_; rintro e w6 ⟨R, cc, rfl, hr1, hr2⟩))
      go_ret
      exact ⟨R, cc, rfl, hr1, hr2⟩
end Go.Proofs.YtkfpcohdbbhmaaaDoor
