/- The fractions' reference: contracts at canonical limbs; walks of divide, common. Conditions: none. -/
import Derived.Test.YtfdmlfpldgobjaaGreatDoorZYP
import Derived.Test.YtfdmlfpldgobjaaGreatDoorZYH
import Derived.Test.YtfdmlfpldgobjaaGreatDoorZYI
import Derived.Test.YtfdmlfpldgobjaaGreatDoorZYE
set_option linter.unusedVariables false
set_option linter.unusedSimpArgs false
namespace Go.Proofs.YtfdmlfpldgobjaaGreatDoor
open Go.RowKit Big
set_option linter.unusedSectionVars false
section
variable {A B : Option Addr} {c d n m : Nat} {w : World} (ha : Mg w A c (limbs n)) (hb : Mg w B d (limbs m)) (hs : (limbs n).length ≤ 100000) (ht : (limbs m).length ≤ 100000)
include ha
theorem Qeven_n (b : Bool) (h : decide (n % 2 = 0) = b) : Calls Tryz.prog 44 #[.slice A (limbs n).length c] w fun e w' => e = .returned (.bool b) ∧ w = w' :=
 Qeven_any A c _ w ha b (by rw [val_limbs]; exact h)
include hs
theorem Qhalve_n : Calls Tryz.prog 45 #[.slice A (limbs n).length c] w (RetNF w (n / 2)) := by
 have := Qhalve_fr A c _ w ha (by omega); rwa [val_limbs] at this
theorem Qshift_n (q : Nat) (hq : q ≤ 1) : Calls Tryz.prog 48 #[.slice A (limbs n).length c, .int .u32 q] w (RetNF w (2 * n + q)) := by
 have := Qshift_fr A c _ q w ha (by omega) hq; rwa [val_limbs] at this
include hb
theorem Qcmp_n : Calls Tryz.prog 46 #[.slice A (limbs n).length c, .slice B (limbs m).length d] w (RetI w (ord n m)) := by
 have := Qcompare_any A B c d _ _ w ha hb (nrm_limbs _) (nrm_limbs _); rwa [val_limbs, val_limbs] at this
include ht
theorem Qminus_n (hle : m ≤ n) : Calls Tryz.prog 47 #[.slice A (limbs n).length c, .slice B (limbs m).length d] w (RetNF w (n - m)) := by
 have := Qminus_fr A B c d _ _ w ha hb (by omega) (limbs_mono hle) (by rw [val_limbs, val_limbs]; exact hle); rwa [val_limbs, val_limbs] at this
end
/-- long division bit by bit: T is what has been read of the number -/
structure Lbb (T m : Nat) (w : World) (s6 s7 : Value) : Prop where
 ex : ∃ A c B d, s6 = .slice A (limbs (T / m)).length c ∧ s7 = .slice B (limbs (T % m)).length d ∧ Mg w A c (limbs (T / m)) ∧ Mg w B d (limbs (T % m))
theorem Lbb.start (m : Nat) (w : World) : Lbb 0 m w (.slice none 0 0) (.slice none 0 0) :=
 ⟨none, 0, none, 0, by simp [limbs_zero], by simp [limbs_zero], by simpa using mg_nil w, by simpa using mg_nil w⟩
theorem val_drop_le (xs : List Nat) (k : Nat) : val (xs.drop k) ≤ val xs := by
 rcases Nat.le_total k xs.length with h | h
 ·rw [val_split xs k h]
  have : val (xs.drop k) ≤ 4294967296 ^ k * val (xs.drop k) := Nat.le_mul_of_pos_left _ (Nat.pow_pos (by decide))
  omega
 ·rw [val_out xs h]; omega
theorem part_le {V x k : Nat} (hk : k ≤ 32) : V * 2 ^ k + x / 2 ^ (32 - k) ≤ V * 4294967296 + x := by
 have h1 : V * 2 ^ k ≤ V * 4294967296 := Nat.mul_le_mul_left _ (by rw [show (4294967296 : Nat) = 2 ^ 32 by decide]; exact Nat.pow_le_pow_right (by decide) hk)
 have h2 := Nat.div_le_self x (2 ^ (32 - k))
 omega
set_option maxRecDepth 100000 in
set_option maxHeartbeats 2000000 in
theorem Qdivide_n (A B : Option Addr) (c d n m : Nat) (w : World) (ha : Mg w A c (limbs n)) (hb : Mg w B d (limbs m)) (hs : (limbs n).length ≤ 50000) (ht : (limbs m).length ≤ 50000) (hm : m ≠ 0) :
  Calls Tryz.prog 114 #[.slice A (limbs n).length c, .slice B (limbs m).length d] w (RetQR w (n / m) (n % m)) := by
 have HSh := hid fun (w1 : World) (R : Option Addr) (cc r q : Nat) (h : Mg w1 R cc (limbs r)) (hl : (limbs r).length ≤ 100000) (hq : q ≤ 1) => Qshift_n h hl q hq
 have HC := hid fun (w1 : World) (hw : Below w.heap.size w w1) (R : Option Addr) (cc r : Nat) (h : Mg w1 R cc (limbs r)) (hl : (limbs r).length ≤ 100000) => Qcmp_n h (hb.below hw) hl
 have HM := hid fun (w1 : World) (hw : Below w.heap.size w w1) (R : Option Addr) (cc r : Nat) (h : Mg w1 R cc (limbs r)) (hl : (limbs r).length ≤ 100000) (hle : m ≤ r) => Qminus_n h (hb.below hw) hl (by omega) hle
 have OX := hid ha.ok
 have VX := hid (val_limbs n)
 have hm0 : 0 < m := by omega
 have hcapB := hb.cap
 have hmaxB := hb.max
 generalize hxs : limbs n = xs at *
 have HX := hid hxs
 clear hb hxs hm
 go_enter Tryz.func114, Tryz.ntmps114
 go_wp2
 go_loopw [6, 7, 8] (fun s6 s7 s8 wr => ∃ (j : Nat), j ≤ xs.length ∧ s8 = .int .i64 ((j : Int) - 1) ∧ Below w.heap.size w wr ∧ Hid (Lbb (val (xs.drop j)) m wr s6 s7)) (fun _ _ s8 _ => (intOf s8 + 1).toNat)
 case atStart => exact ⟨xs.length, Nat.le_refl _, rfl, Below.refl _ _, by rw [List.drop_length]; exact Lbb.start _ _⟩
 case round =>
  obtain ⟨k, hk, rfl, hbl, hg⟩ := hrel
  obtain ⟨A1, c1, A2, c2, rfl, rfl, hq, hr⟩ := hg.out.ex
  clear hg
  by_cases h0 : 0 < k
  ·obtain ⟨j, rfl⟩ : ∃ j, k = j + 1 := ⟨k - 1, by omega⟩
   have hj : j < xs.length := by omega
   have e1 : ((j + 1 : Nat) : Int) - 1 = (j : Int) := by omega
   rw [e1]
   obtain ⟨ba, oa, rfl, hba, hca⟩ := ha.rd.at_ hj
   have cx := (hbl.cell (p := ⟨ba, oa + j, none⟩) hba).trans (hca j hj)
   have ox := ha.ok.get hj
   unfold lim at cx
   have hV := hid (val_drop xs j)
   rw [lb_at hj] at hV
   have hVn := hid (val_drop_le xs j)
   rw [VX.out] at hVn
   generalize xs[j] = x at *
   generalize val (xs.drop (j + 1)) = V at *
   clear hca
   obtain ⟨wo, rfl⟩ : ∃ wo : World, wo = wr := ⟨_, rfl⟩
   go_wp2
   go_loopw [6, 7, 9, 10] (fun s6 s7 s9 s10 wr => ∃ (k : Nat), k ≤ 32 ∧ s10 = .int .i64 k ∧ s9 = .int .u32 ((x * 2 ^ k % 4294967296 : Nat) : Int) ∧ Below w.heap.size w wr ∧ Hid (Lbb (V * 2 ^ k + x / 2 ^ (32 - k)) m wr s6 s7)) (fun _ _ _ s10 _ => 32 - (intOf s10).toNat)
   case atStart =>
    refine ⟨0, by omega, rfl, ?_, hbl, ?_⟩
    ·congr 1; rw [Nat.pow_zero, Nat.mul_one, Nat.mod_eq_of_lt ox]
    ·have e : V * 2 ^ 0 + x / 2 ^ (32 - 0) = V := by rw [Nat.pow_zero, Nat.mul_one, Nat.sub_zero, Nat.div_eq_of_lt (by omega), Nat.add_zero]
     rw [e]
     exact ⟨A1, c1, A2, c2, rfl, rfl, hq, hr⟩
   case round =>
    clear hq hr hbl
    obtain ⟨i, hi, rfl, rfl, hbl, hg⟩ := hrel
    obtain ⟨A1, c1, A2, c2, rfl, rfl, hq, hr⟩ := hg.out.ex
    clear hg
    by_cases hi2 : i < 32
    ·have hbit := hid (limb_bit (x := x) hi2)
     have hup := hid (limb_up (x := x) (k := i))
     have hnx := hid (limb_next (x := x) (A := V) hi2)
     have hTle := part_le (V := V) (x := x) hi
     have hT2 : V * 2 ^ i + x / 2 ^ (32 - i) ≤ n := by have := hV.out; have := hVn.out; omega
     have hbl1 : x / 2 ^ (31 - i) % 2 ≤ 1 := by omega
     have hLl : x * 2 ^ i % 4294967296 < 4294967296 := Nat.mod_lt _ (by decide)
     have hno := fun h => dv_no (A := V * 2 ^ i + x / 2 ^ (32 - i)) (m := m) (b := x / 2 ^ (31 - i) % 2) h
     have hyes := fun h => dv_yes (A := V * 2 ^ i + x / 2 ^ (32 - i)) hm0 hbl1 h
     rw [hnx.out] at hno hyes
     have hno := hid hno
     have hyes := hid hyes
     generalize hT' : V * 2 ^ (i + 1) + x / 2 ^ (32 - (i + 1)) = T' at *
     generalize hL0 : x * 2 ^ (i + 1) % 4294967296 = L' at *
     have HT' := hid hT'
     have HL' := hid hL0
     clear hT' hL0
     generalize hT : V * 2 ^ i + x / 2 ^ (32 - i) = T at *
     generalize x / 2 ^ (31 - i) % 2 = b at *
     generalize x * 2 ^ i % 4294967296 = L at *
     clear hnx hTle hT
     have hb1 : (L : Int) / 2147483648 = (b : Int) := by have := hbit.out; omega
     have hl1 : (L : Int) * 2 % 4294967296 = (L' : Int) := by have := hup.out; omega
     have hL' : L' < 4294967296 := by have := hup.out; omega
     clear hbit hup
     have hrl : T % m < m := Nat.mod_lt _ hm0
     have hrl2 : (limbs (T % m)).length ≤ 50000 := Nat.le_trans (limbs_mono (Nat.le_of_lt hrl)) ht
     have hql2 : (limbs (T / m)).length ≤ 50000 := Nat.le_trans (limbs_mono (Nat.le_trans (Nat.div_le_self _ _) hT2)) (by rw [HX.out]; exact hs)
     have hr2 := limbs_len2' (n := T % m) hbl1 hrl2
     generalize T / m = Qn at *
     generalize T % m = Rn at *
     have hwz := hbl.size
     by_cases hlt : 2 * Rn + b < m
     ·have HH := hid (hno.out hlt)
      have HC1 := hid (fun w1 hw R cc => HC.out w1 hw R cc (2 * Rn + b))
      rw [ord_lt hlt] at HC1
      clear hno hyes HC
      go_wp2_with fail
      refine (HSh.out _ _ _ _ b hr (by omega) hbl1).mono ?_
      rintro e w1 ⟨R1, d1, rfl, hr1, h1, _⟩
      have hb1' := hbl.trans (h1.mono hwz)
      go_wp2_with fail
      refine (HC1.out _ hb1' _ _ hr1 (by omega)).mono ?_
      rintro e w2 ⟨rfl, h2⟩
      have hb2' := hb1'.trans (h2.mono hb1'.size)
      go_wp2_with fail
      refine (HSh.out _ _ _ _ 0 ((hq.below h1).below h2) (by omega) (by omega)).mono ?_
      rintro e w3 ⟨R3, d3, rfl, hr3, h3, _⟩
      have hb3' := hb2'.trans (h3.mono hb2'.size)
      go_wp2_with fail
      go_roundw
      case rel => exact ⟨i + 1, by omega, by go_num, by rw [HL'.out] <;> first | rfl | rw [hl1], hb3', by rw [HT'.out]; exact ⟨⟨R3, d3, R1, d1, by rw [HH.out.1] <;> rfl, by rw [HH.out.2], by rw [HH.out.1]; exact hr3, by rw [HH.out.2]; exact (hr1.below h2).below h3⟩⟩⟩
      case measure => simp [intOf] <;> omega
     ·have hge : m ≤ 2 * Rn + b := by omega
      have HH := hid (hyes.out hge)
      have ho : 0 ≤ ord (2 * Rn + b) m := by unfold ord; rw [if_neg (by omega)]; split <;> omega
      have HC1 := hid (fun w1 hw R cc => HC.out w1 hw R cc (2 * Rn + b))
      clear hno hyes HC
      generalize ord (2 * Rn + b) m = ov at *
      go_wp2_with fail
      refine (HSh.out _ _ _ _ b hr (by omega) hbl1).mono ?_
      rintro e w1 ⟨R1, d1, rfl, hr1, h1, _⟩
      have hb1' := hbl.trans (h1.mono hwz)
      go_wp2_with fail
      refine (HC1.out _ hb1' _ _ hr1 (by omega)).mono ?_
      rintro e w2 ⟨rfl, h2⟩
      have hb2' := hb1'.trans (h2.mono hb1'.size)
      go_wp2_with fail
      refine (HM.out _ hb2' _ _ _ (hr1.below h2) (by omega) hge).mono ?_
      rintro e w3 ⟨R3, d3, rfl, hr3, h3, _⟩
      have hb3' := hb2'.trans (h3.mono hb2'.size)
      go_wp2_with fail
      refine (HSh.out _ _ _ _ 1 (((hq.below h1).below h2).below h3) (by omega) (by omega)).mono ?_
      rintro e w4 ⟨R4, d4, rfl, hr4, h4, _⟩
      have hb4' := hb3'.trans (h4.mono hb3'.size)
      go_wp2_with fail
      go_roundw
      case rel => exact ⟨i + 1, by omega, by go_num, by rw [HL'.out] <;> first | rfl | rw [hl1], hb4', by rw [HT'.out]; exact ⟨⟨R4, d4, R3, d3, by rw [HH.out.1] <;> rfl, by rw [HH.out.2], by rw [HH.out.1]; exact hr4, by rw [HH.out.2]; exact hr3.below h4⟩⟩⟩
      case measure => simp [intOf] <;> omega
    ·obtain rfl : i = 32 := by omega
     have e : V * 2 ^ 32 + x / 2 ^ (32 - 32) = val (xs.drop j) := by
      rw [hV.out, Nat.sub_self, Nat.pow_zero, Nat.div_one, show (2 : Nat) ^ 32 = 4294967296 by decide]; omega
     rw [e] at hq hr
     have HL := hid (⟨⟨A1, c1, A2, c2, rfl, rfl, hq, hr⟩⟩ : Lbb (val (xs.drop j)) m wr (.slice A1 (limbs (val (xs.drop j) / m)).length c1) (.slice A2 (limbs (val (xs.drop j) % m)).length c2))
     rw [e]
     clear hq hr hV hVn e
     generalize (limbs (val (xs.drop j) / m)).length = l1 at *
     generalize (limbs (val (xs.drop j) % m)).length = l2 at *
     go_wp2
     go_roundw
     case rel => exact ⟨j, by omega, by first | rfl | go_num, hbl, HL⟩
     case measure => simp [intOf] <;> omega
  ·obtain rfl : k = 0 := by omega
   rw [List.drop_zero, VX.out] at *
   go_wp2
   go_ret2
   exact ⟨_, _, _, _, rfl, hq, hr, hbl⟩
end Go.Proofs.YtfdmlfpldgobjaaGreatDoor
/- The fractions' reference: the walk of common. Conditions: none. -/
namespace Go.Proofs.YtfdmlfpldgobjaaGreatDoor
open Go.RowKit Big
theorem two_le {n k t L : Nat} (h : n = k * 2 ^ t) (h0 : n ≠ 0) (hL : (limbs n).length ≤ L) : t < 32 * L + 1 := by
 have h1 := (limbs_len_iff n L).1 hL
 have hk : 1 ≤ k := by
  rcases Nat.eq_zero_or_pos k with h2 | h2
  ·subst h2; simp at h; omega
  ·exact h2
 have h2 : 2 ^ t ≤ n := by rw [h]; exact Nat.le_mul_of_pos_left _ hk
 have h3 : (2 : Nat) ^ t < 2 ^ (32 * L) := by
  have : (4294967296 : Nat) ^ L = 2 ^ (32 * L) := by rw [Nat.pow_mul]
  omega
 have := (Nat.pow_lt_pow_iff_right (by decide : 1 < 2)).1 h3
 omega
theorem phi_len (n m : Nat) : phi n m ≤ 64 * ((limbs n).length + (limbs m).length) + 1 := by
 have h1 := (limbs_len_iff n _).1 (Nat.le_refl _)
 have h2 := (limbs_len_iff m _).1 (Nat.le_refl _)
 have e : ∀ L : Nat, (4294967296 : Nat) ^ L = 2 ^ (32 * L) := fun L => by rw [Nat.pow_mul]
 rw [e] at h1 h2
 have := phi_le h1 h2
 omega
/-- the state of the second loop -/
structure Cm (n m G M n1 m1 i : Nat) : Prop where
 n0 : n1 ≠ 0
 odd : ¬ (n1 % 2 = 0 ∧ m1 % 2 = 0)
 g : Nat.gcd n1 m1 = G
 ph : i + phi n1 m1 ≤ M
 ln : n1 ≤ n
 lm : m1 ≤ m
theorem Cm.a {n m G M n1 m1 i : Nat} (h : Cm n m G M n1 m1 i) (hm : m1 ≠ 0) (he : n1 % 2 = 0) : Cm n m G M (n1 / 2) m1 (i + 1) := by
 have hp := phi_a h.n0 hm he
 have := h.ph
 have := h.odd
 refine ⟨by have := h.n0; omega, by omega, ?_, by omega, by have := h.ln; omega, h.lm⟩
 have e : n1 = 2 * (n1 / 2) := by omega
 rw [← h.g, e, show 2 * (n1 / 2) / 2 = n1 / 2 by omega]
 exact (gcd_left (by omega)).symm
theorem Cm.b {n m G M n1 m1 i : Nat} (h : Cm n m G M n1 m1 i) (hm : m1 ≠ 0) (ho : n1 % 2 = 1) (he : m1 % 2 = 0) : Cm n m G M n1 (m1 / 2) (i + 1) := by
 have hp := phi_b (a := n1) hm he
 have := h.ph
 refine ⟨h.n0, by omega, ?_, by omega, h.ln, by have := h.lm; omega⟩
 have e : m1 = 2 * (m1 / 2) := by omega
 rw [← h.g, e, show 2 * (m1 / 2) / 2 = m1 / 2 by omega]
 exact (gcd_right ho).symm
theorem Cm.s {n m G M n1 m1 i : Nat} (h : Cm n m G M n1 m1 i) (hm : m1 ≠ 0) (ho : n1 % 2 = 1) (ho2 : m1 % 2 = 1) (hgt : m1 < n1) : Cm n m G M (n1 - m1) m1 (i + 1) := by
 have hp := phi_s1 hm ho ho2
 have := h.ph
 refine ⟨by omega, by omega, ?_, by omega, by have := h.ln; omega, h.lm⟩
 rw [gcd_sub1 (by omega)]; exact h.g
theorem Cm.t {n m G M n1 m1 i : Nat} (h : Cm n m G M n1 m1 i) (hm : m1 ≠ 0) (ho : n1 % 2 = 1) (ho2 : m1 % 2 = 1) (hle : n1 ≤ m1) : Cm n m G M n1 (m1 - n1) (i + 1) := by
 have hp := phi_s2 hm ho ho2
 have := h.ph
 refine ⟨h.n0, by omega, ?_, by omega, h.ln, by have := h.lm; omega⟩
 rw [gcd_sub2 hle]; exact h.g
theorem Cm.lt {n m G M n1 m1 i : Nat} (h : Cm n m G M n1 m1 i) (hm : m1 ≠ 0) : i < M := by
 have h1 := h.ph
 rw [phi_pos hm] at h1
 have h2 : 1 ≤ bl n1 := by rw [bl_pos h.n0]; omega
 omega
theorem Cm.done {n m G M n1 i : Nat} (h : Cm n m G M n1 0 i) : n1 = G := by have := h.g; rwa [Nat.gcd_zero_right] at this
set_option maxRecDepth 100000 in
set_option maxHeartbeats 4000000 in
theorem Qcommon_pos (A B : Option Addr) (c d n m : Nat) (w : World) (ha : Mg w A c (limbs n)) (hb : Mg w B d (limbs m)) (hs : (limbs n).length ≤ 50000) (ht : (limbs m).length ≤ 50000) (hn : n ≠ 0) (hm : m ≠ 0) :
    Calls Tryz.prog 22 #[.slice A (limbs n).length c, .slice B (limbs m).length d] w (RetN w (Nat.gcd n m)) := by
  have l1 : (((limbs n).length : Int) == 0) = false := by rw [beq_eq_false_iff_ne]; have : limbs n ≠ [] := fun h => hn (limbs_eq_nil.1 h); have := List.length_pos_iff.2 this; omega
  have l2 : (((limbs m).length : Int) == 0) = false := by rw [beq_eq_false_iff_ne]; have : limbs m ≠ [] := fun h => hm (limbs_eq_nil.1 h); have := List.length_pos_iff.2 this; omega
  go_enter Tryz.func22, Tryz.ntmps22
  go_wp2
  clear l1 l2
  go_loopw [0, 1, 5] (fun s0 s1 s5 wr => ∃ (n' m' t : Nat) (A' B' : Option Addr) (c' d' : Nat), s0 = .slice A' (limbs n').length c' ∧ s1 = .slice B' (limbs m').length d' ∧ s5 = .int .i64 t ∧ Mg wr A' c' (limbs n') ∧ Mg wr B' d' (limbs m') ∧ Below w.heap.size w wr ∧ Hid (n = n' * 2 ^ t ∧ m = m' * 2 ^ t)) (fun _ _ s5 _ => 2000000 - (intOf s5).toNat)
  case atStart => exact ⟨n, m, 0, A, B, c, d, rfl, rfl, rfl, ha, hb, Below.refl _ _, by unfold Hid; simp⟩
  case round =>
    obtain ⟨n', m', t, A', B', c', d', rfl, rfl, rfl, hA, hB, hbl, hh⟩ := hrel
    have htl := two_le hh.out.1 hn hs
    have hn0 : n' ≠ 0 := fun h => hn (by rw [hh.out.1, h, Nat.zero_mul])
    have hm0 : m' ≠ 0 := fun h => hm (by rw [hh.out.2, h, Nat.zero_mul])
    have hln : n' ≤ n := by conv => rhs; rw [hh.out.1]
                            exact Nat.le_mul_of_pos_right _ (Nat.pow_pos (by decide))
    have hlm : m' ≤ m := by conv => rhs; rw [hh.out.2]
                            exact Nat.le_mul_of_pos_right _ (Nat.pow_pos (by decide))
    have hl1 := Nat.le_trans (limbs_mono hln) hs
    have hl2 := Nat.le_trans (limbs_mono hlm) ht
    have hwz := hbl.size
    by_cases hpar : n' % 2 = 0 ∧ m' % 2 = 0
    · obtain ⟨p1, p2⟩ := hpar
      have HE1 := hid (Qeven_n hA true (by simp [p1]))
      have HE2 := hid (Qeven_n hB true (by simp [p2]))
      have HH : Hid (n = n' / 2 * 2 ^ (t + 1) ∧ m = m' / 2 * 2 ^ (t + 1)) := by
        have e1 : n' = 2 * (n' / 2) := by omega
        have e2 : m' = 2 * (m' / 2) := by omega
        refine ⟨?_, ?_⟩
        · conv => lhs; rw [hh.out.1, e1]
          rw [Nat.pow_succ]; ac_rfl
        · conv => lhs; rw [hh.out.2, e2]
          rw [Nat.pow_succ]; ac_rfl
      clear hh p1 p2 ha hb
      go_wp2_with fail
      refine HE1.out.mono ?_
      rintro e w1 ⟨rfl, rfl⟩
      go_wp2_with fail
      refine HE2.out.mono ?_
      rintro e w1 ⟨rfl, rfl⟩
      go_wp2_with fail
      refine (Qhalve_n hA (by omega)).mono ?_
      rintro e w1 ⟨R1, c1, rfl, hr1, h1, _⟩
      have hb1 := hbl.trans (h1.mono hwz)
      go_wp2_with fail
      refine (Qhalve_n (hB.below h1) (by omega)).mono ?_
      rintro e w2 ⟨R2, c2, rfl, hr2, h2, _⟩
      have hb2 := hb1.trans (h2.mono hb1.size)
      go_wp2_with fail
      go_roundw
      case rel => exact ⟨n' / 2, m' / 2, t + 1, R1, R2, c1, c2, rfl, rfl, by go_num, hr1.below h2, hr2, hb2, HH⟩
      case measure => simp [intOf]; omega
    · have hph := phi_len n' m'
      have hM0 : 64 * ((limbs n').length + (limbs m').length) + 4 ≤ 6400004 := by omega
      obtain ⟨M, hM⟩ : ∃ M : Nat, 64 * (((limbs n').length : Int) + ((limbs m').length : Int)) + 4 = (M : Int) := ⟨64 * ((limbs n').length + (limbs m').length) + 4, by omega⟩
      have hM6 : M ≤ 6400004 := by omega
      have HC : Hid (Cm n' m' (Nat.gcd n' m') M n' m' 0) := ⟨hn0, hpar, rfl, by omega, Nat.le_refl _, Nat.le_refl _⟩
      have HG : Hid (Nat.gcd n m = Nat.gcd n' m' * 2 ^ t) := by
        have := Nat.gcd_mul_right n' (2 ^ t) m'
        rw [← hh.out.1, ← hh.out.2] at this
        exact this
      have HGl : Hid (Nat.gcd n m ≤ n) := Nat.gcd_le_left _ (Nat.pos_of_ne_zero hn)
      have hp : n' % 2 = 1 ∨ (n' % 2 = 0 ∧ m' % 2 = 1) := by omega
      clear hpar hph hM0 hh ha hb
      rcases hp with p1 | ⟨p1, p2⟩
      case' inl =>
        have HE1 := hid (Qeven_n hA false (by simp [p1]))
        clear p1
        go_wp2_with fail
        refine HE1.out.mono ?_
        rintro e w1 ⟨rfl, rfl⟩
        clear HE1
      case' inr =>
        have HE1 := hid (Qeven_n hA true (by simp [p1]))
        have HE2 := hid (Qeven_n hB false (by simp [p2]))
        clear p1 p2
        go_wp2_with fail
        refine HE1.out.mono ?_
        rintro e w1 ⟨rfl, rfl⟩
        go_wp2_with fail
        refine HE2.out.mono ?_
        rintro e w1 ⟨rfl, rfl⟩
        clear HE1 HE2
      all_goals
        go_wp2
        clear hM
        obtain ⟨wo, rfl⟩ : ∃ wo : World, wo = wr := ⟨_, rfl⟩
        go_loopw [0, 1, 7] (fun s0 s1 s7 wr => ∃ (n1 m1 i : Nat) (A1 B1 : Option Addr) (c1 d1 : Nat), s0 = .slice A1 (limbs n1).length c1 ∧ s1 = .slice B1 (limbs m1).length d1 ∧ s7 = .int .i64 i ∧ Mg wr A1 c1 (limbs n1) ∧ Mg wr B1 d1 (limbs m1) ∧ Below w.heap.size w wr ∧ i ≤ M ∧ Hid (Cm n' m' (Nat.gcd n' m') M n1 m1 i)) (fun _ _ s7 _ => M - (intOf s7).toNat)
        case atStart => exact ⟨n', m', 0, A', B', c', d', rfl, rfl, rfl, hA, hB, hbl, by omega, HC⟩
        case round =>
          clear hA hB hbl HC hwz
          obtain ⟨n1, m1, i, A1, B1, c1, d1, rfl, rfl, rfl, hA, hB, hbl, hiM, hC⟩ := hrel
          have hwz := hbl.size
          have hk1 := Nat.le_trans (limbs_mono hC.out.ln) hl1
          have hk2 := Nat.le_trans (limbs_mono hC.out.lm) hl2
          by_cases hz : m1 = 0
          · subst hz
            have HD := hid hC.out.done
            rw [limbs_zero] at hB hk2
            simp only [limbs_zero, List.length_nil]
            clear hB hC
            go_wp2
            all_goals
              obtain ⟨wp, rfl⟩ : ∃ wp : World, wp = wr := ⟨_, rfl⟩
              go_loopw [0, 8] (fun s0 s8 wr => ∃ (j : Nat) (A1 : Option Addr) (c1 : Nat), j ≤ t ∧ s8 = .int .i64 j ∧ s0 = .slice A1 (limbs (n1 * 2 ^ j)).length c1 ∧ Mg wr A1 c1 (limbs (n1 * 2 ^ j)) ∧ Below w.heap.size w wr) (fun _ s8 _ => t - (intOf s8).toNat)
              case atStart => exact ⟨0, A1, c1, by omega, rfl, by rw [Nat.pow_zero, Nat.mul_one], by rw [Nat.pow_zero, Nat.mul_one]; exact hA, hbl⟩
              case round =>
                clear hA hbl hwz
                obtain ⟨j, A2, c2, hj, rfl, rfl, hA, hbl⟩ := hrel
                by_cases hjt : j < t
                · have hle : n1 * 2 ^ j ≤ n := Nat.le_trans (by rw [HG.out, ← HD.out]; exact Nat.mul_le_mul_left _ (Nat.pow_le_pow_right (by decide) hj)) HGl.out
                  have hlen := Nat.le_trans (limbs_mono hle) hs
                  have e : 2 * (n1 * 2 ^ j) + 0 = n1 * 2 ^ (j + 1) := by rw [Nat.pow_succ]; simp only [Nat.add_zero]; ac_rfl
                  have HS := Qshift_n hA (by omega) 0 (by omega)
                  rw [e] at HS
                  have HS := hid HS
                  clear e hle
                  generalize hq : n1 * 2 ^ (j + 1) = q at *
                  have HQ := hid hq
                  clear hq
                  generalize n1 * 2 ^ j = p at *
                  go_wp2_with fail
                  refine HS.out.mono ?_
                  rintro e w1 ⟨R1, c1, rfl, hr1, h1, _⟩
                  go_wp2_with fail
                  go_roundw
                  case rel => exact ⟨j + 1, R1, c1, by omega, by go_num, by rw [HQ.out], by rw [HQ.out]; exact hr1, hbl.trans (h1.mono hbl.size)⟩
                  case measure => simp [intOf]; omega
                · obtain rfl : j = t := by omega
                  have e : n1 * 2 ^ j = Nat.gcd n m := by rw [HG.out, ← HD.out]
                  rw [e] at hA
                  rw [e]
                  clear e
                  go_wp2
                  go_ret
                  exact ⟨A2, c2, rfl, hA, hbl⟩
          · have hiM2 := hC.out.lt hz
            have hlm1 : 0 < (limbs m1).length := List.length_pos_iff.2 (fun h => hz (limbs_eq_nil.1 h))
            by_cases q1 : n1 % 2 = 0
            · have HE1 := hid (Qeven_n hA true (by simp [q1]))
              have HH := hid (hC.out.a hz q1)
              clear q1 hC
              go_wp2_with fail
              refine HE1.out.mono ?_
              rintro e w1 ⟨rfl, rfl⟩
              go_wp2_with fail
              refine (Qhalve_n hA (by omega)).mono ?_
              rintro e w1 ⟨R1, e1, rfl, hr1, h1, _⟩
              have hb1 := hbl.trans (h1.mono hwz)
              go_wp2_with fail
              go_roundw
              case rel => exact ⟨n1 / 2, m1, i + 1, R1, B1, e1, d1, rfl, rfl, by go_num, hr1, hB.below h1, hb1, by omega, HH⟩
              case measure => simp [intOf]; omega
            · have q1 : n1 % 2 = 1 := by omega
              have HE1 := hid (Qeven_n hA false (by simp [q1]))
              by_cases q2 : m1 % 2 = 0
              · have HE2 := hid (Qeven_n hB true (by simp [q2]))
                have HH := hid (hC.out.b hz q1 q2)
                clear q1 q2 hC
                go_wp2_with fail
                refine HE1.out.mono ?_
                rintro e w1 ⟨rfl, rfl⟩
                go_wp2_with fail
                refine HE2.out.mono ?_
                rintro e w1 ⟨rfl, rfl⟩
                go_wp2_with fail
                refine (Qhalve_n hB (by omega)).mono ?_
                rintro e w1 ⟨R1, e1, rfl, hr1, h1, _⟩
                have hb1 := hbl.trans (h1.mono hwz)
                go_wp2_with fail
                go_roundw
                case rel => exact ⟨n1, m1 / 2, i + 1, A1, R1, c1, e1, rfl, rfl, by go_num, hA.below h1, hr1, hb1, by omega, HH⟩
                case measure => simp [intOf]; omega
              · have q2 : m1 % 2 = 1 := by omega
                have HE2 := hid (Qeven_n hB false (by simp [q2]))
                have HO := hid (Qcmp_n hA hB (by omega))
                by_cases hgt : m1 < n1
                · have HH := hid (hC.out.s hz q1 q2 hgt)
                  rw [ord_gt hgt] at HO
                  clear q1 q2 hC
                  go_wp2_with fail
                  refine HE1.out.mono ?_
                  rintro e w1 ⟨rfl, rfl⟩
                  go_wp2_with fail
                  refine HE2.out.mono ?_
                  rintro e w1 ⟨rfl, rfl⟩
                  go_wp2_with fail
                  refine HO.out.mono ?_
                  rintro e w2 ⟨rfl, h2⟩
                  have hb2 := hbl.trans (h2.mono hwz)
                  go_wp2_with fail
                  refine (Qminus_n (hA.below h2) (hB.below h2) (by omega) (by omega) (by omega)).mono ?_
                  rintro e w1 ⟨R1, e1, rfl, hr1, h1, _⟩
                  have hb1 := hb2.trans (h1.mono hb2.size)
                  go_wp2_with fail
                  go_roundw
                  case rel => exact ⟨n1 - m1, m1, i + 1, R1, B1, e1, d1, rfl, rfl, by go_num, hr1, (hB.below h2).below h1, hb1, by omega, HH⟩
                  case measure => simp [intOf]; omega
                · have HH := hid (hC.out.t hz q1 q2 (by omega))
                  have ho : ord n1 m1 ≤ 0 := by unfold ord; split <;> (try split) <;> omega
                  generalize ord n1 m1 = ov at *
                  clear q1 q2 hC
                  go_wp2_with fail
                  refine HE1.out.mono ?_
                  rintro e w1 ⟨rfl, rfl⟩
                  go_wp2_with fail
                  refine HE2.out.mono ?_
                  rintro e w1 ⟨rfl, rfl⟩
                  go_wp2_with fail
                  refine HO.out.mono ?_
                  rintro e w2 ⟨rfl, h2⟩
                  have hb2 := hbl.trans (h2.mono hwz)
                  go_wp2_with fail
                  refine (Qminus_n (hB.below h2) (hA.below h2) (by omega) (by omega) (by omega)).mono ?_
                  rintro e w1 ⟨R1, e1, rfl, hr1, h1, _⟩
                  have hb1 := hb2.trans (h1.mono hb2.size)
                  go_wp2_with fail
                  go_roundw
                  case rel => exact ⟨n1, m1 - n1, i + 1, A1, R1, c1, e1, rfl, rfl, by go_num, (hA.below h2).below h1, hr1, hb1, by omega, HH⟩
                  case measure => simp [intOf]; omega
theorem Qcommon_n {A B : Option Addr} {c d n m : Nat} {w : World} (ha : Mg w A c (limbs n)) (hb : Mg w B d (limbs m)) (hs : (limbs n).length ≤ 50000) (ht : (limbs m).length ≤ 50000) :
  Calls Tryz.prog 22 #[.slice A (limbs n).length c, .slice B (limbs m).length d] w (RetN w (Nat.gcd n m)) := by
 by_cases hn : n = 0
 ·subst hn
  rw [limbs_zero, Nat.gcd_zero_left]
  simp only [List.length_nil]
  have hcb := hb.cap
  have hmb := hb.max
  go_enter Tryz.func22, Tryz.ntmps22
  go_wp2
  go_ret
  exact ⟨B, d, rfl, hb, Below.refl _ _⟩
 ·by_cases hm : m = 0
  ·subst hm
   have l1 : (((limbs n).length : Int) == 0) = false := by rw [beq_eq_false_iff_ne]; have : limbs n ≠ [] := fun h => hn (limbs_eq_nil.1 h); have := List.length_pos_iff.2 this; omega
   rw [limbs_zero, Nat.gcd_zero_right]
   simp only [List.length_nil]
   have hcb := ha.cap
   have hmb := ha.max
   go_enter Tryz.func22, Tryz.ntmps22
   go_wp2
   go_ret
   exact ⟨A, c, rfl, ha, Below.refl _ _⟩
  ·exact Qcommon_pos A B c d n m w ha hb hs ht hn hm
end Go.Proofs.YtfdmlfpldgobjaaGreatDoor
/- The fractions' reference: words for fractions; walks of made, one, sum. Conditions: none. -/
namespace Go.Proofs.YtfdmlfpldgobjaaGreatDoor
open Go.RowKit Big
section
variable {A B : Option Addr} {c d n m k k2 : Nat} {L L2 : List Nat} {w : World} (hx : Lz n k L) (hy : Lz m k2 L2) (ha : Mg w A c L) (hb : Mg w B d L2) (hs : k ≤ 50000) (ht : k2 ≤ 50000)
include hx hy ha hb hs ht
theorem Qcommon_g {k3 : Nat} {L3 : List Nat} (hz : Lz (Nat.gcd n m) k3 L3) : Calls Tryz.prog 22 #[.slice A k c, .slice B k2 d] w (GN w k3 L3) := by
 obtain ⟨rfl, rfl⟩ := hx; obtain ⟨rfl, rfl⟩ := hy; obtain ⟨rfl, rfl⟩ := hz
 exact Qcommon_n ha hb (by omega) (by omega)
theorem Qdivide_g {k3 k4 : Nat} {L3 L4 : List Nat} (hz : Lz (n / m) k3 L3) (hr : Lz (n % m) k4 L4) (h0 : m ≠ 0) : Calls Tryz.prog 114 #[.slice A k c, .slice B k2 d] w (GNN w k3 L3 k4 L4) := by
 obtain ⟨rfl, rfl⟩ := hx; obtain ⟨rfl, rfl⟩ := hy; obtain ⟨rfl, rfl⟩ := hz; obtain ⟨rfl, rfl⟩ := hr
 exact Qdivide_n A B c d n m w ha hb (by omega) (by omega) h0
end
set_option maxRecDepth 100000 in
set_option maxHeartbeats 2000000 in
theorem Qmade_g {neg : Bool} {n dd : Nat} {A B : Option Addr} {c d k k2 : Nat} {L L2 : List Nat} {w : World} {b : Bool} {kx ly : Nat} {xs ys : List Nat} {err : Int} (hx : Lz n k L) (hy : Lz dd k2 L2) (ha : Mg w A c L) (hb : Mg w B d L2) (hs : k ≤ 50000) (ht : k2 ≤ 50000) (h0 : dd ≠ 0)
  {p : Int × Nat} (hp : Fz p b kx xs ly ys) (hr : lowE (sg neg n) dd = (p, err)) : Calls Tryz.prog 102 #[.bool neg, .slice A k c, .slice B k2 d] w (GF w b kx xs ly ys err) := by
 obtain ⟨kg, LG, IG⟩ := lz (Nat.gcd n dd)
 obtain ⟨k1, L1, I1⟩ := lz (n / Nat.gcd n dd)
 obtain ⟨k2', L2', I2⟩ := lz (n % Nat.gcd n dd)
 obtain ⟨k3, L3, I3⟩ := lz (dd / Nat.gcd n dd)
 obtain ⟨k4, L4, I4⟩ := lz (dd % Nat.gcd n dd)
 have hg0 : Nat.gcd n dd ≠ 0 := fun h => h0 (Nat.eq_zero_of_gcd_eq_zero_right h)
 have hkg : kg ≤ 50000 := Nat.le_trans (IG.out.mono hy (Nat.gcd_le_right _ (Nat.pos_of_ne_zero h0))) ht
 have HC := hid fun (w1 : World) (h : Below w.heap.size w w1) => Qcommon_g (w := w1) hx hy (ha.below h) (hb.below h) hs ht IG.out
 have HD1 := hid fun (w1 : World) (h : Below w.heap.size w w1) (R : Option Addr) (cc : Nat) (m : Mg w1 R cc LG) => Qdivide_g (w := w1) hx IG.out (ha.below h) m hs hkg I1.out I2.out hg0
 have HD2 := hid fun (w1 : World) (h : Below w.heap.size w w1) (R : Option Addr) (cc : Nat) (m : Mg w1 R cc LG) => Qdivide_g (w := w1) hy IG.out (hb.below h) m ht hkg I3.out I4.out hg0
 have hl := low_sg neg n dd
 have hff : fitsF (low (sg neg n) dd) ↔ k1 ≤ 512 ∧ k3 ≤ 512 := by
  unfold fitsF
  rw [hl.1, hl.2, fits_sg, fits_nat, I1.out.len, I3.out.len]
 have h1b : k1 ≤ 50000 := Nat.le_trans (I1.out.mono hx (Nat.div_le_self _ _)) hs
 have h3b : k3 ≤ 50000 := Nat.le_trans (I3.out.mono hy (Nat.div_le_self _ _)) ht
 have HB : Below w.heap.size w w := Below.refl _ _
 have hca := ha.cap
 have hma := ha.max
 have hcb := hb.cap
 have hmb := hb.max
 by_cases hf : k1 ≤ 512 ∧ k3 ≤ 512
 ·rw [lowE_yes (hff.2 hf)] at hr
  rw [Prod.mk.injEq] at hr
  obtain ⟨rfl, rfl⟩ := hr
  obtain ⟨hb1, rfl, rfl, rfl, rfl⟩ := hp
  rw [hl.1] at hb1
  have e1 : limbs (low (sg neg n) dd).1.natAbs = L1 := by rw [hl.1, natAbs_sg]; exact I1.out.hL.symm
  have e2 : limbs (low (sg neg n) dd).2 = L3 := by rw [hl.2]; exact I3.out.hL.symm
  rw [e1, e2, ← I1.out.hk, ← I3.out.hk]
  have hb2 : b = (neg && decide (0 < k1)) := by
   rw [hb1]
   by_cases h : n / Nat.gcd n dd = 0
   ·have := I1.out.zero.2 h
    rw [h, sg_zero, this]; simp
   ·have : k1 ≠ 0 := fun h' => h (I1.out.zero.1 h')
    rw [sg_neg _ _ h]; simp [show 0 < k1 by omega]
  obtain ⟨f1, f2⟩ := hf
  clear hb1 hl hff e1 e2 hg0 h0 hx hy ha hb hs ht hkg IG I1 I2 I3 I4
  have HH := hid hb2
  clear hb2
  go_enter Tryz.func102, Tryz.ntmps102
  go_wp2_with fail
  refine (HC.out _ BG).mono ?_
  rintro e w1 ⟨R1, e1, rfl, m1, h1⟩
  obtain ⟨q0, q1, q2, q3, z0⟩ := newF h1
  have f_z0 := z0.fr
  have hv_ : Below w.heap.size w w1 := Below.trans (b := _) (by repeat (first | assumption | exact Bv _ _ | refine Ba ?_ (by simp; try omega) _ | refine Bd ?_ | refine Bn ?_ _)) (h1.mono (by simp; try omega))
  replace HB := HB.trans (hv_.mono HB.size)
  clear hv_
  go_wp2_with fail
  refine (HD1.out _ HB _ _ m1).mono ?_
  rintro e w2 ⟨R2, e2, R3, e3, rfl, m2, m3, h2⟩
  have hv_ : Below w1.heap.size w1 w2 := Below.trans (b := _) (by repeat (first | assumption | exact Bv _ _ | refine Ba ?_ (by simp; try omega) _ | refine Bd ?_ | refine Bn ?_ _)) (h2.mono (by simp; try omega))
  replace m1 := m1.below hv_
  replace q0 := keep_cell hv_ q0
  replace q1 := keep_cell hv_ q1
  replace q2 := keep_cell hv_ q2
  replace q3 := keep_cell hv_ q3
  have lt_q0 := cell_lt q0
  have lt_q1 := cell_lt q1
  have lt_q2 := cell_lt q2
  have lt_q3 := cell_lt q3
  replace z0 := z0.below hv_
  replace f_z0 := z0.fr
  replace HB := HB.trans (hv_.mono HB.size)
  clear hv_
  go_wp2_with fail
  refine (HD2.out _ HB _ _ m1).mono ?_
  rintro e w3 ⟨R4, e4, R5, e5, rfl, m5, m6, h3⟩
  have hv_ : Below w2.heap.size w2 w3 := Below.trans (b := _) (by repeat (first | assumption | exact Bv _ _ | refine Ba ?_ (by simp; try omega) _ | refine Bd ?_ | refine Bn ?_ _)) (h3.mono (by simp; try omega))
  replace m1 := m1.below hv_
  replace m2 := m2.below hv_
  replace q0 := keep_cell hv_ q0
  replace q1 := keep_cell hv_ q1
  replace q2 := keep_cell hv_ q2
  replace q3 := keep_cell hv_ q3
  have lt_q0 := cell_lt q0
  have lt_q1 := cell_lt q1
  have lt_q2 := cell_lt q2
  have lt_q3 := cell_lt q3
  replace z0 := z0.below hv_
  replace f_z0 := z0.fr
  replace HB := HB.trans (hv_.mono HB.size)
  clear hv_
  have m4 := m2
  cases neg
  ·have hbf : b = false := by rw [HH.out]; rfl
   subst hbf
   go_wp2
   refine bodyPost_ret (v := .tuple #[.agg #[.bool false, .slice R2 k1 e2, .bool false, .slice R4 k3 e4], .int .i64 0]) ?_ rfl ?_
   ·simp [results, Tryz.results102, go_sem, q0, q1, q2, q3]
   ·obtain ⟨j1, j2, j3⟩ := fin_fr m4 m5 HB (Nat.le_refl _) q0 q1 q2 q3 (.bool false) (.slice R2 k1 e2) (.bool false) (.slice R4 k3 e4)
    exact ⟨R2, e2, R4, e4, rfl, j1, j2, j3⟩
  ·by_cases hk0 : 0 < k1
   ·have hbf : b = true := by rw [HH.out]; simp [hk0]
    subst hbf
    go_wp2
    refine bodyPost_ret (v := .tuple #[.agg #[.bool true, .slice R2 k1 e2, .bool false, .slice R4 k3 e4], .int .i64 0]) ?_ rfl ?_
    ·simp [results, Tryz.results102, go_sem, q0, q1, q2, q3]
    ·obtain ⟨j1, j2, j3⟩ := fin_fr m4 m5 HB (Nat.le_refl _) q0 q1 q2 q3 (.bool true) (.slice R2 k1 e2) (.bool false) (.slice R4 k3 e4)
     exact ⟨R2, e2, R4, e4, rfl, j1, j2, j3⟩
   ·have hbf : b = false := by rw [HH.out]; simp [hk0]
    have hk1 : k1 = 0 := by omega
    subst hbf
    subst hk1
    go_wp2
    refine bodyPost_ret (v := .tuple #[.agg #[.bool false, .slice R2 0 e2, .bool false, .slice R4 k3 e4], .int .i64 0]) ?_ rfl ?_
    ·simp [results, Tryz.results102, go_sem, q0, q1, q2, q3]
    ·obtain ⟨j1, j2, j3⟩ := fin_fr m4 m5 HB (Nat.le_refl _) q0 q1 q2 q3 (.bool false) (.slice R2 0 e2) (.bool false) (.slice R4 k3 e4)
     exact ⟨R2, e2, R4, e4, rfl, j1, j2, j3⟩
 ·rw [lowE_no (fun h => hf (hff.1 h))] at hr
  rw [Prod.mk.injEq] at hr
  obtain ⟨rfl, rfl⟩ := hr
  obtain ⟨rfl, rfl, rfl, rfl, rfl⟩ := hp
  have hcase : 512 < k1 ∨ (k1 ≤ 512 ∧ 512 < k3) := by omega
  clear hl hff hg0 h0 hx hy ha hb hs ht hkg IG I1 I2 I3 I4 hf
  go_enter Tryz.func102, Tryz.ntmps102
  go_wp2_with fail
  refine (HC.out _ BG).mono ?_
  rintro e w1 ⟨R1, e1, rfl, m1, h1⟩
  obtain ⟨q0, q1, q2, q3, z0⟩ := newF h1
  have f_z0 := z0.fr
  have hv_ : Below w.heap.size w w1 := Below.trans (b := _) (by repeat (first | assumption | exact Bv _ _ | refine Ba ?_ (by simp; try omega) _ | refine Bd ?_ | refine Bn ?_ _)) (h1.mono (by simp; try omega))
  replace HB := HB.trans (hv_.mono HB.size)
  clear hv_
  go_wp2_with fail
  refine (HD1.out _ HB _ _ m1).mono ?_
  rintro e w2 ⟨R2, e2, R3, e3, rfl, m2, m3, h2⟩
  have hv_ : Below w1.heap.size w1 w2 := Below.trans (b := _) (by repeat (first | assumption | exact Bv _ _ | refine Ba ?_ (by simp; try omega) _ | refine Bd ?_ | refine Bn ?_ _)) (h2.mono (by simp; try omega))
  replace m1 := m1.below hv_
  replace q0 := keep_cell hv_ q0
  replace q1 := keep_cell hv_ q1
  replace q2 := keep_cell hv_ q2
  replace q3 := keep_cell hv_ q3
  have lt_q0 := cell_lt q0
  have lt_q1 := cell_lt q1
  have lt_q2 := cell_lt q2
  have lt_q3 := cell_lt q3
  replace z0 := z0.below hv_
  replace f_z0 := z0.fr
  replace HB := HB.trans (hv_.mono HB.size)
  clear hv_
  go_wp2_with fail
  refine (HD2.out _ HB _ _ m1).mono ?_
  rintro e w3 ⟨R4, e4, R5, e5, rfl, m5, m6, h3⟩
  have hv_ : Below w2.heap.size w2 w3 := Below.trans (b := _) (by repeat (first | assumption | exact Bv _ _ | refine Ba ?_ (by simp; try omega) _ | refine Bd ?_ | refine Bn ?_ _)) (h3.mono (by simp; try omega))
  replace m1 := m1.below hv_
  replace q0 := keep_cell hv_ q0
  replace q1 := keep_cell hv_ q1
  replace q2 := keep_cell hv_ q2
  replace q3 := keep_cell hv_ q3
  have lt_q0 := cell_lt q0
  have lt_q1 := cell_lt q1
  have lt_q2 := cell_lt q2
  have lt_q3 := cell_lt q3
  replace z0 := z0.below hv_
  replace f_z0 := z0.fr
  replace HB := HB.trans (hv_.mono HB.size)
  clear hv_
  rcases hcase with hc | ⟨hc1, hc2⟩
  all_goals
   go_wp2
   refine bodyPost_ret (v := .tuple #[.agg #[.bool false, .slice none 0 0, .bool false, .slice none 0 0], .int .i64 4]) ?_ rfl ?_
   ·simp [results, Tryz.results102, go_sem, q0, q1, q2, q3]
   ·obtain ⟨j1, j2, j3⟩ := fin_fr (X := none) (c := 0) (xs := []) (mg_nil' _) (mg_nil' _) HB (Nat.le_refl _) q0 q1 q2 q3 (.bool false) (.slice none 0 0) (.bool false) (.slice none 0 0)
    exact ⟨none, 0, none, 0, by simp [limbs_zero], by simpa [limbs_zero] using j1, by simpa [limbs_zero] using j2, j3⟩
end Go.Proofs.YtfdmlfpldgobjaaGreatDoor
