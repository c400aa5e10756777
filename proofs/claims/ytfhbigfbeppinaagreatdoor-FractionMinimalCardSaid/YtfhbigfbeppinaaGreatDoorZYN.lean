/- Plain facts on texts and digits: they restore the number. Conditions: none. -/
import Derived.Test.YtfhbigfbeppinaaGreatDoorZYD
import Derived.Test.YtfhbigfbeppinaaGreatDoorZNtA
import Derived.Test.YtfhbigfbeppinaaGreatDoorZYH
import Derived.Test.YtfhbigfbeppinaaGreatDoorZYB
import Derived.Shelf.Strings.Cut
set_option linter.unusedVariables false
set_option linter.unusedSimpArgs false
namespace Go.Proofs.YtfhbigfbeppinaaGreatDoor
open Go.RowKit Big Go.Lib

theorem ch_val {d : Nat} (h : d < 10) : (ch d).toNat = 48 + d := by
  unfold ch
  rw [UInt8.toNat_ofNat']
  omega
theorem ch_digit {d : Nat} (h : d < 10) : digit (ch d) := by unfold digit; rw [ch_val h]; omega
theorem dvals_ch : ∀ l : List Nat, (∀ d ∈ l, d < 10) → dvals (l.map ch) = l
  | [], _ => rfl
  | d :: r, h => by
    have h1 := dvals_ch r (fun d hd => h d (by simp [hd]))
    unfold dvals at h1 ⊢
    simp only [List.map_cons]
    rw [h1, ch_val (h d (by simp))]
    congr 1
    omega
theorem digs_head {b n : Nat} (hb : 2 ≤ b) (h : n ≠ 0) : ∃ d r, (digs b n).reverse = d :: r ∧ d ≠ 0 ∧ d < b := by
  have h1 := digs_ne hb h
  have h2 := digs_last hb n h
  cases hr : (digs b n).reverse with
  | nil => exact absurd (List.reverse_eq_nil_iff.1 hr) h1
  | cons d r =>
    refine ⟨d, r, rfl, fun hd => h2 ?_, digs_lt hb n d ?_⟩
    · rw [← List.head?_reverse, hr, hd]; rfl
    · rw [← List.mem_reverse, hr]; simp
theorem parD_digs (neg : Bool) (n : Nat) (h : n ≠ 0) (hl : (decDigits n).length ≤ 4096) : parD neg (decDigits n) = (sg neg n, 0) := by
  rw [dec_digs n h] at hl ⊢
  obtain ⟨d, r, hr, hd, hd2⟩ := digs_head (b := 10) (by omega) h
  have hall : ∀ d ∈ (digs 10 n).reverse, d < 10 := fun d hd => digs_lt (by omega) n d (List.mem_reverse.1 hd)
  unfold parD
  rw [if_neg (by omega), if_neg, if_pos, dvals_ch _ hall, ofd_digs (by omega)]
  · intro x hx
    obtain ⟨d, hd, rfl⟩ := List.mem_map.1 hx
    exact ch_digit (hall d hd)
  · rw [hr]
    rintro (h1 | ⟨h1, _⟩)
    · simp at h1
    · simp only [List.map_cons, List.head?_cons, Option.some.injEq] at h1
      have := congrArg UInt8.toNat h1
      rw [ch_val hd2] at this
      have e : (48 : UInt8).toNat = 48 := rfl
      omega
theorem dec_first (n : Nat) : ∃ c r, decDigits n = c :: r ∧ c ≠ 45 := by
  by_cases h : n = 0
  · subst h
    exact ⟨48, [], by rw [decDigits]; rfl, by decide⟩
  · obtain ⟨d, r, hr, hd, hd2⟩ := digs_head (b := 10) (by omega) h
    rw [dec_digs n h, hr]
    refine ⟨ch d, r.map ch, rfl, fun h1 => ?_⟩
    have := congrArg UInt8.toNat h1
    rw [ch_val hd2] at this
    have e : (45 : UInt8).toNat = 45 := rfl
    omega
theorem parE_fmtZ (x : Int) (h : (fmtZ x).length ≤ 4096) : parE (fmtZ x) = (x, 0) := by
  unfold fmtZ at h ⊢
  split
  · rename_i hx
    rw [if_pos hx] at h
    have e1 : hasPrefix (45 :: decDigits x.natAbs) [45] = true := by simp [hasPrefix]
    unfold parE
    have e2 : trimPrefix (45 :: decDigits x.natAbs) [45] = decDigits x.natAbs := by simp [trimPrefix, e1]
    rw [e1, e2, parD_digs true x.natAbs (by omega) (by simp at h; omega)]
    simp only [Prod.mk.injEq, and_true]
    unfold sg
    simp
    omega
  · rename_i hx
    rw [if_neg hx] at h
    obtain ⟨c, r, hc, hne⟩ := dec_first x.natAbs
    have e1 : hasPrefix (decDigits x.natAbs) [45] = false := by
      rw [hc]
      simp only [hasPrefix, List.isPrefixOf, Bool.and_true]
      rw [beq_eq_false_iff_ne]
      exact fun h => hne h.symm
    unfold parE
    have e2 : trimPrefix (decDigits x.natAbs) [45] = decDigits x.natAbs := by simp [trimPrefix, e1]
    rw [e1, e2]
    by_cases h0 : x.natAbs = 0
    · have : x = 0 := by omega
      subst this
      decide +kernel
    · rw [parD_digs false x.natAbs h0 h]
      simp only [Prod.mk.injEq, and_true]
      unfold sg
      simp
      omega
def ints (l : List Nat) : List Int := l.map fun (n : Nat) => (n : Int)
end Go.Proofs.YtfhbigfbeppinaaGreatDoor
/- The reference: walks of short, longer. Conditions: none. -/
set_option linter.unusedVariables false
set_option linter.unusedSimpArgs false
namespace Go.Proofs.YtfhbigfbeppinaaGreatDoor
open Go.RowKit Big

/-- the quotient's limbs in new memory and a small remainder -/
def RetSF (w : World) (q r : Nat) (e : Ending) (w' : World) : Prop :=
  ∃ A c, e = .returned (.tuple #[.slice A (limbs q).length c, .int .u64 r]) ∧ Mg w' A c (limbs q) ∧ Below w.heap.size w w' ∧ Hid (∀ p, A = some p → w.heap.size ≤ p.block)
set_option maxHeartbeats 1000000 in
theorem Rshort_fr (A : Option Addr) (c : Nat) (xs : List Nat) (d : Nat) (w : World) (ha : Mg w A c xs) (h0 : 0 < d) (hd : d ≤ 65536) (hs : xs.length ≤ 1048576) :
    Calls Tryz.prog 112 #[.slice A xs.length c, .int .u64 d] w (RetSF w (val xs / d) (val xs % d)) := by
  have hmk := make32 xs.length (by omega)
  go_enter Tryz.func112, Tryz.ntmps112
  go_wp2
  go_loopw [7, 8] (fun rr i wr => ∃ (k r : Nat) (L : List Nat), k ≤ xs.length ∧ i = .int .i64 ((k : Int) - 1) ∧ rr = .int .u64 r ∧ Below w.heap.size w wr ∧ LB wr w.heap.size L ∧ DivAt d xs k r L) (fun _ i _ => (intOf i + 1).toNat)
  case atStart => exact ⟨xs.length, 0, _, Nat.le_refl _, rfl, rfl, (Below.refl _ _).alloc (Nat.le_refl _) _, LB.made w xs.length, .start _ _⟩
  case round =>
    obtain ⟨k, r, L, hk, rfl, rfl, hbl, hL, hat⟩ := hrel
    have hgl := hL.lt
    have hr := hat.lt h0
    by_cases hk0 : 0 < k
    · have hk1 : k - 1 < xs.length := by omega
      have hkL : k - 1 < L.length := by rw [hat.len hk]; exact hk1
      have cell0 := hL.cell (k - 1) hkL
      have free0 := hL.free (k - 1)
      have hwz := hbl.size
      obtain ⟨ba, oa, rfl, hba, hca⟩ := ha.rd.at_ hk1
      have c1 := (hbl.cell (p := ⟨ba, oa + (k - 1), none⟩) hba).trans (hca (k - 1) hk1)
      have o1 := ha.ok.get hk1
      have hba2 : ba < wr.heap.size := by omega
      unfold lim at c1
      clear hca
      have hq := div_lt_B hr o1
      have hq1 : ((r : Int) * 4294967296 + (xs[k - 1] : Int)) / (d : Int) = (((r * 4294967296 + xs[k - 1]) / d : Nat) : Int) := cast_div r _ d
      have hq2 : ((r : Int) * 4294967296 + (xs[k - 1] : Int)) % (d : Int) = (((r * 4294967296 + xs[k - 1]) % d : Nat) : Int) := cast_mod r _ d
      have hm := Nat.mod_lt (r * 4294967296 + xs[k - 1]) h0
      have HS := hid (hat.step hk0 hk1)
      generalize (r * 4294967296 + xs[k - 1]) / d = Q at *
      generalize (r * 4294967296 + xs[k - 1]) % d = R at *
      go_wp2
      go_roundw
      case rel => exact ⟨k - 1, R, L.set (k - 1) Q, by omega, by go_num, by first | rfl | rw [hq2], (by repeat (first | exact hbl | refine Below.drew ?_ | refine below_drewN ?_ _ | refine Below.setCell ?_ (by exact Nat.le_refl _) _ | refine Below.alloc ?_ (by simp; omega) _)), (by repeat (first | exact hL | refine LB.drew ?_ | refine LB.drewN ?_ _ | refine LB.set_ ?_ _ _ _ rfl)), HS.out⟩
      case measure => simp [intOf]; omega
    · obtain rfl : k = 0 := by omega
      have hv := divS_eq d h0 xs
      have hLL : L = (divS d xs).1 := by simpa using hat.1
      have hrr : r = (divS d xs).2 := by simpa using hat.2
      have HR1 := hid (hrr.trans hv.2)
      have HT := RTrim_fr _ _ _ _ (hL.mg (by rw [hLL]; exact ok_divS d h0 xs ha.ok) (by rw [hat.len (Nat.zero_le _)]; omega)) (by rw [hat.len (Nat.zero_le _)]; omega)
      rw [hat.len (Nat.zero_le _), show val L = val xs / d by rw [hLL, hv.1]] at HT
      have HT := hid HT
      have hsz := hbl.size
      clear hv hLL hrr
      go_wp2_with (go_at_call 132; refine HT.out.mono ?_; rintro e w1 ⟨R1, c1, rfl, hr1, h1, hf⟩)
      go_ret2
      exact ⟨R1, c1, by rw [← HR1.out]; rfl, hr1, hbl.trans (h1.mono hsz), fun p hp => Nat.le_trans hsz (hf.out p hp)⟩
set_option maxHeartbeats 1000000 in
theorem Rlonger_fr (A : Option Addr) (c : Nat) (xs : List Nat) (by_ more : Nat) (w : World) (ha : Mg w A c xs) (hb : by_ ≤ 65536) (hm : more ≤ 65536) (hs : xs.length ≤ 1048576) :
    Calls Tryz.prog 111 #[.slice A xs.length c, .int .u64 by_, .int .u64 more] w (RetNF w (val xs * by_ + more)) := by
  go_enter Tryz.func111, Tryz.ntmps111
  go_wp2
  go_loopw [7, 8, 9] (fun s7 s8 s9 wr => ∃ (k q : Nat) (v : Value) (D : List Nat), k ≤ xs.length ∧ s9 = .int .i64 k ∧ s8 = .int .u64 q ∧ q < 4294967296 ∧ s7 = v ∧ wr.ownsRow w.heap.size 47 1 v D.length (D.map lim) ∧ Below w.heap.size w wr ∧ Hid (Cry (val xs * by_ + more) k q (val (xs.drop k) * by_) D)) (fun _ _ s9 _ => xs.length - (intOf s9).toNat)
  case atStart => exact ⟨0, more, _, [], by omega, rfl, rfl, by omega, rfl, World.ownsRow_nil _ _ _ _, Below.refl _ _, by unfold Hid; have := Cry.start more (val xs * by_); rw [Nat.add_comm] at this; simpa using this⟩
  case round =>
    obtain ⟨k, q, v, D, hk, rfl, rfl, hq, rfl, hown, hbl, hc⟩ := hrel
    have hD := hc.out.len
    have hsz := hbl.size
    by_cases h0 : k < xs.length
    · obtain ⟨ba, oa, rfl, hba, hca⟩ := ha.rd.at_ h0
      have c1 := (hbl.cell (p := ⟨ba, oa + k, none⟩) hba).trans (hca k h0)
      have o1 := ha.ok.get h0
      unfold lim at c1
      clear hca
      have HC := hid (fun (s : Nat) (hs2 : s = xs[k] * by_ + q) => hc.out.step (t := xs[k] * by_) (R' := val (xs.drop (k + 1)) * by_) (s := s) (by rw [val_drop xs k, lb_at h0, Nat.add_mul, Nat.mul_assoc]) hs2)
      clear hc
      generalize xs[k] = x at *
      have hP : (x : Int) * (by_ : Int) = ((x * by_ : Nat) : Int) := (Int.natCast_mul _ _).symm
      have hPb : x * by_ ≤ 4294967295 * 65536 := Nat.mul_le_mul (by omega) hb
      generalize x * by_ = P at *
      obtain ⟨m, hm_⟩ : ∃ m, (P + q) % 4294967296 = m := ⟨_, rfl⟩
      obtain ⟨u, hu⟩ : ∃ u, (P + q) / 4294967296 = u := ⟨_, rfl⟩
      have hm1 : ((P : Int) + (q : Int)) % 4294967296 = (m : Int) := by omega
      have hu1 : ((P : Int) + (q : Int)) / 4294967296 = (u : Int) := by omega
      have hm2 : m < 4294967296 := by omega
      have hu2 : u < 4294967296 := by omega
      have HC2 := hid (HC.out _ rfl)
      rw [hm_, hu] at HC2
      clear HC hm_ hu
      go_wp2_with (at_builtin; refine wpList_app rfl (.tmp 27) (.tmp 31) 22 rfl 47 (.int .u32 0) 4 Tryz.underlying22 info32 rfl w.heap.size lim (fun _ => rfl) _ D rfl (own_below hown ((Below.refl _ _).alloc (Nat.le_refl _) (.cells #[.int .u32 (m : Int)] 47))) _ 1 [m] rfl (rd_one lim _ m 47) (by simp; omega) (by simp; omega) (by simp; omega) ?_; intro v5 w5 hown5 hgr hwh)
      go_roundw
      case rel => exact ⟨k + 1, u, v5, D ++ [m], by omega, by go_num, by rw [hu1], hu2, rfl, hown5, below_app1 hown hbl hgr, HC2⟩
      case measure => simp [intOf]; omega
    · obtain rfl : k = xs.length := by omega
      have hl := hc.out
      rw [val_out xs (Nat.le_refl _), Nat.zero_mul] at hl
      have hv := hid hl.last
      have hok := hid (ok_snoc hl.ok hq)
      clear hc hl
      go_wp2_with (first | (at_builtin; refine wpList_app rfl (.tmp 35) (.tmp 38) 22 rfl 47 (.int .u32 0) 4 Tryz.underlying22 info32 rfl w.heap.size lim (fun _ => rfl) _ D rfl (own_below hown ((Below.refl _ _).alloc (Nat.le_refl _) (.cells #[.int .u32 (q : Int)] 47))) _ 1 [q] rfl (rd_one lim _ q 47) (by simp; omega) (by simp; omega) (by simp; omega) ?_; intro v5 w5 hown5 hgr hwh; have hb5 := below_app1 hown hbl hgr) | (go_at_call 132; refine (own_trim hown5 hb5 hok.out (by simp; omega) hv.out).mono ?_; rintro e w6 ⟨R, cc, rfl, hr1, hr2⟩))
      go_ret
      exact ⟨R, cc, rfl, hr1, hr2⟩
end Go.Proofs.YtfhbigfbeppinaaGreatDoor
/- The reference: walks of FromDigits, Digits. Conditions: none. -/
set_option linter.unusedVariables false
set_option linter.unusedSimpArgs false
namespace Go.Proofs.YtfhbigfbeppinaaGreatDoor
open Go.RowKit Big
end Go.Proofs.YtfhbigfbeppinaaGreatDoor
/- The reference: the walk of Digits. Conditions: none. -/
set_option linter.unusedVariables false
set_option linter.unusedSimpArgs false
namespace Go.Proofs.YtfhbigfbeppinaaGreatDoor
open Go.RowKit Big

theorem digs_len2 {b : Nat} (hb : 2 ≤ b) (k : Nat) : ∀ n, n < 2 ^ k → (digs b n).length ≤ k := by
  induction k with
  | zero => intro n h; simp at h; subst h; rw [digs_zero]; simp
  | succ k ih =>
    intro n h
    by_cases h0 : n = 0
    · subst h0; rw [digs_zero]; simp
    · rw [digs_pos hb h0, List.length_cons]
      have : n / b < 2 ^ k := by
        rw [Nat.div_lt_iff_lt_mul (by omega)]
        rw [Nat.pow_succ] at h
        exact Nat.lt_of_lt_of_le h (Nat.mul_le_mul_left _ hb)
      have := ih _ this
      omega
theorem digs_len_l {b n : Nat} (hb : 2 ≤ b) : (digs b n).length ≤ 32 * (limbs n).length := by
  apply digs_len2 hb
  have h := (limbs_len_iff n _).1 (Nat.le_refl _)
  rwa [two_pow_B] at h
theorem rev_drop {α : Type} {L : List α} {k : Nat} (hk : 0 < k) (h : k - 1 < L.length) : (L.drop (k - 1)).reverse = (L.drop k).reverse ++ [L[k - 1]] := by
  rw [List.drop_eq_getElem_cons h, show k - 1 + 1 = k by omega, List.reverse_cons]
theorem Mg.far {w : World} {A : Option Addr} {c : Nat} {xs : List Nat} (h : Mg w A c xs) (hl : 0 < xs.length) : ∀ p, A = some p → p.block < w.heap.size := by
  intro p hp
  obtain ⟨b, o, e, hB, _⟩ := h.rd hl
  rw [e] at hp
  injection hp with hp
  subst hp
  exact hB
end Go.Proofs.YtfhbigfbeppinaaGreatDoor
/- Texts of fractions: what Format and Parse answer. Conditions: none. -/
set_option linter.unusedVariables false
set_option linter.unusedSimpArgs false
namespace Go.Proofs.YtfhbigfbeppinaaGreatDoor
open Go.RowKit Big Go.Lib

/-- where the slash stands, or the length -/
def at47 : List UInt8 → Nat
  | [] => 0
  | b :: l => if b = 47 then 0 else at47 l + 1
theorem at47_le : ∀ l, at47 l ≤ l.length
  | [] => Nat.le_refl _
  | b :: l => by
    have := at47_le l
    unfold at47
    split <;> simp <;> omega
theorem at47_cons (b : UInt8) (l : List UInt8) : at47 (b :: l) = if b = 47 then 0 else at47 l + 1 := rfl
theorem index47 : ∀ l : List UInt8, Lib.index l [47] = if at47 l < l.length then (at47 l : Int) else -1
  | [] => by simp [Lib.index, at47]
  | b :: l => by
    have ih := index47 l
    have e0 : Lib.index (b :: l) [47] = if List.isPrefixOf [47] (b :: l) then 0 else if Lib.index l [47] == -1 then -1 else Lib.index l [47] + 1 := rfl
    by_cases h : b = 47
    · subst h
      have e1 : at47 (47 :: l) = 0 := by rw [at47_cons, if_pos rfl]
      rw [e0, e1]
      simp
    · have e1 : List.isPrefixOf [47] (b :: l) = false := by
        simp only [List.isPrefixOf, Bool.and_true]
        rw [beq_eq_false_iff_ne]
        exact fun e => h e.symm
      have e2 : at47 (b :: l) = at47 l + 1 := by rw [at47_cons, if_neg h]
      rw [e0, e1, e2, ih]
      simp only [Bool.false_eq_true, if_false, List.length_cons]
      by_cases h2 : at47 l < l.length
      · have h3 : at47 l + 1 < l.length + 1 := by omega
        rw [if_pos h2, if_pos h3, if_neg (by rw [beq_iff_eq]; omega)]
        omega
      · have h3 : ¬ at47 l + 1 < l.length + 1 := by omega
        rw [if_neg h2, if_neg h3]
        simp
theorem cut47 (l : List UInt8) : Lib.cut l [47] = (l.take (at47 l), l.drop (at47 l + 1), decide (at47 l < l.length)) := by
  unfold Lib.cut
  rw [index47]
  have h1 := at47_le l
  by_cases h : at47 l < l.length
  · rw [if_pos h, if_pos (by omega), decide_eq_true h]
    rfl
  · rw [if_neg h, if_neg (by omega), decide_eq_false h, List.take_of_length_le (by omega), List.drop_of_length_le (by omega)]
def parF (l : List UInt8) : (Int × Nat) × Int :=
  if (parE (l.take (at47 l))).2 ≠ 0 then ((0, 0), (parE (l.take (at47 l))).2)
  else if ¬ at47 l < l.length then newE (parE (l.take (at47 l))).1 1
  else if Lib.hasPrefix (l.drop (at47 l + 1)) [45] = true then ((0, 0), 9)
  else if (parE (l.drop (at47 l + 1))).2 ≠ 0 then ((0, 0), (parE (l.drop (at47 l + 1))).2)
  else newE (parE (l.take (at47 l))).1 (parE (l.drop (at47 l + 1))).1
def fmtF (f : Int × Nat) : List UInt8 := if f.2 = 1 then fmtZ f.1 else fmtZ f.1 ++ 47 :: fmtZ (f.2 : Int)
def fmtR (na : Bool) (xs : List Nat) (nb : Bool) (ys : List Nat) : List UInt8 := if fvB na xs nb ys then fmtF (sg na (val xs), val ys) else []
theorem at47_before : ∀ (l : List UInt8) (j : Nat) (h : j < l.length), j < at47 l → l[j] ≠ 47
  | b :: l, 0, _, h => by
    intro e
    simp only [List.getElem_cons_zero] at e
    rw [at47_cons, if_pos e] at h
    omega
  | b :: l, j + 1, hl, h => by
    rw [at47_cons] at h
    split at h
    · omega
    · simp only [List.getElem_cons_succ]
      exact at47_before l j (by simpa using hl) (by omega)
theorem at47_is : ∀ (l : List UInt8) (h : at47 l < l.length), l[at47 l] = 47
  | [], h => by simp at h
  | b :: l, h => by
    by_cases hb : b = 47
    · have e : at47 (b :: l) = 0 := by rw [at47_cons, if_pos hb]
      simp only [e, List.getElem_cons_zero]
      exact hb
    · have e : at47 (b :: l) = at47 l + 1 := by rw [at47_cons, if_neg hb]
      simp only [e, List.getElem_cons_succ]
      exact at47_is l (by rw [e, List.length_cons] at h; omega)
theorem at47_step {l : List UInt8} {k : Nat} (h : k ≤ at47 l) (hk : k < l.length) (hne : l[k] ≠ 47) : k + 1 ≤ at47 l := by
  rcases Nat.lt_or_ge k (at47 l) with h1 | h1
  · exact h1
  · have e : at47 l = k := by omega
    have := at47_is l (by omega)
    simp only [e] at this
    exact absurd this hne
theorem at47_stop {l : List UInt8} {k : Nat} (h : k ≤ at47 l) (hk : k < l.length) (he : l[k] = 47) : at47 l = k := by
  rcases Nat.lt_or_ge k (at47 l) with h1 | h1
  · exact absurd he (at47_before l k hk h1)
  · omega
theorem at47_none : ∀ l : List UInt8, (∀ x ∈ l, x ≠ 47) → at47 l = l.length
  | [], _ => rfl
  | b :: l, h => by
    unfold at47
    rw [if_neg (h b (by simp)), at47_none l (fun x hx => h x (by simp [hx]))]
    rfl
theorem at47_app : ∀ (l r : List UInt8), (∀ x ∈ l, x ≠ 47) → at47 (l ++ 47 :: r) = l.length
  | [], r, _ => by simp [at47]
  | b :: l, r, h => by
    rw [List.cons_append]
    unfold at47
    rw [if_neg (h b (by simp)), at47_app l r (fun x hx => h x (by simp [hx]))]
    rfl
theorem dec_not47 (n : Nat) : ∀ x ∈ decDigits n, x ≠ 47 := by
  intro x hx he
  subst he
  by_cases h : n = 0
  · subst h
    rw [show decDigits 0 = [48] by rw [decDigits]; rfl] at hx
    simp at hx
  · rw [dec_digs n h] at hx
    obtain ⟨d, hd, he⟩ := List.mem_map.1 hx
    have hd2 := digs_lt (by omega) n d (List.mem_reverse.1 hd)
    have := congrArg UInt8.toNat he
    rw [ch_val hd2] at this
    have e : (47 : UInt8).toNat = 47 := rfl
    omega
theorem fmtZ_not47 (z : Int) : ∀ x ∈ fmtZ z, x ≠ 47 := by
  intro x hx
  unfold fmtZ at hx
  split at hx
  · rcases List.mem_cons.1 hx with h | h
    · rw [h]; decide
    · exact dec_not47 _ x h
  · exact dec_not47 _ x hx
theorem fmtZ_pre (n : Nat) : Lib.hasPrefix (fmtZ (n : Int)) [45] = false := by
  obtain ⟨c, r, hc, hne⟩ := dec_first n
  unfold fmtZ
  rw [if_neg (by omega), Int.natAbs_natCast, hc]
  simp only [hasPrefix, List.isPrefixOf, Bool.and_true]
  rw [beq_eq_false_iff_ne]
  exact fun h => hne h.symm
theorem newE_nf {f : Int × Nat} (h : Nf f) (f1 : fits f.1) (f2 : fits (f.2 : Nat)) : newE f.1 (f.2 : Nat) = (f, 0) := by
  unfold newE
  have h0 := h.1
  rw [if_neg (by omega)]
  have e1 : (decide (f.1 < 0) != decide ((f.2 : Int) < 0)) = decide (f.1 < 0) := by
    rw [decide_eq_false (by omega : ¬ (f.2 : Int) < 0)]; simp
  rw [e1, Int.natAbs_natCast, sg_self]
  have hl := low_self (n := f.1) (d := f.2) h
  rw [lowE_yes (by rw [hl]; exact ⟨f1, f2⟩), hl]
theorem parF_fmtF {f : Int × Nat} (h : Nf f) (f1 : fits f.1) (f2 : fits (f.2 : Nat)) (l1 : (fmtZ f.1).length ≤ 4096) (l2 : (fmtZ (f.2 : Int)).length ≤ 4096) : parF (fmtF f) = (f, 0) := by
  unfold fmtF
  split
  · rename_i h1
    unfold parF
    rw [at47_none _ (fmtZ_not47 f.1), List.take_length, parE_fmtZ _ l1]
    have hn := newE_nf h f1 f2
    rw [h1] at hn
    rw [if_neg (by simp), if_pos (by omega)]
    exact hn
  · unfold parF
    have e1 := at47_app (fmtZ f.1) (fmtZ (f.2 : Int)) (fmtZ_not47 f.1)
    rw [e1]
    have e2 : (fmtZ f.1 ++ 47 :: fmtZ (f.2 : Int)).take (fmtZ f.1).length = fmtZ f.1 := List.take_left
    have e3 : (fmtZ f.1 ++ 47 :: fmtZ (f.2 : Int)).drop ((fmtZ f.1).length + 1) = fmtZ (f.2 : Int) := by
      rw [List.drop_append, List.drop_of_length_le (by omega)]
      simp
    rw [e2, e3, parE_fmtZ _ l1, parE_fmtZ _ l2, fmtZ_pre]
    rw [if_neg (by simp), if_neg (by simp), if_neg (by simp), if_neg (by simp)]
    exact newE_nf h f1 f2
theorem hasPre47 {l : List UInt8} {j : Nat} (h : j < l.length) : Lib.hasPrefix (l.drop j) [45] = decide (l[j] = 45) := by
  rw [List.drop_eq_getElem_cons h]
  simp only [hasPrefix, List.isPrefixOf, Bool.and_true]
  rw [Bool.eq_iff_iff, beq_iff_eq, decide_eq_true_eq]
  exact eq_comm
theorem hasPre47n {l : List UInt8} {j : Nat} (h : ¬ j < l.length) : Lib.hasPrefix (l.drop j) [45] = false := by
  rw [List.drop_of_length_le (by omega)]; rfl
theorem fmtZ_len (z : Int) : (fmtZ z).length ≤ 32 * (limbs z.natAbs).length + 2 := by
  have h : (decDigits z.natAbs).length ≤ 32 * (limbs z.natAbs).length + 1 := by
    by_cases h0 : z.natAbs = 0
    · rw [h0, show decDigits 0 = [48] by rw [decDigits]; rfl]; simp
    · rw [dec_digs _ h0]
      have := digs_len_l (b := 10) (n := z.natAbs) (by omega)
      simp only [List.length_map, List.length_reverse]
      omega
  unfold fmtZ
  split
  · simp; omega
  · omega
theorem fmt_one (d : Nat) : fmtZ (d : Int) = [49] ↔ d = 1 := by
  constructor
  · intro h
    have h1 := parE_fmtZ (d : Int) (by rw [h]; decide)
    rw [h] at h1
    have h2 : parE [49] = (1, 0) := by decide +kernel
    rw [h2, Prod.mk.injEq] at h1
    omega
  · rintro rfl; decide +kernel
theorem ofd_lt : ∀ (d : List UInt8) (m : Nat), (∀ x ∈ d, digit x) → ofd 10 m (dvals d) < (m + 1) * 10 ^ d.length
  | [], m, _ => by simp [ofd, dvals]
  | x :: d, m, h => by
    have hx := h x (by simp)
    have ih := ofd_lt d (m * 10 + (x.toNat - 48)) (fun y hy => h y (by simp [hy]))
    have e : ofd 10 m (dvals (x :: d)) = ofd 10 (m * 10 + (x.toNat - 48)) (dvals d) := rfl
    rw [e, List.length_cons, Nat.pow_succ, Nat.mul_comm (10 ^ d.length) 10, ← Nat.mul_assoc]
    refine Nat.lt_of_lt_of_le ih (Nat.mul_le_mul_right _ ?_)
    unfold digit at hx
    omega
theorem ten_pow (k : Nat) : (10 : Nat) ^ k ≤ 2 ^ (4 * k) := by
  have := Nat.pow_le_pow_left (show (10 : Nat) ≤ 16 by omega) k
  rwa [show (16 : Nat) = 2 ^ 4 by decide, ← Nat.pow_mul] at this
theorem parD_fits (neg : Bool) (d : List UInt8) : fits (parD neg d).1 := by
  unfold parD
  have h0 : fits 0 := by unfold fits; simp [limbs_zero]
  split
  · exact h0
  · split
    · exact h0
    · split
      · rename_i hl _ hd
        rw [fits_sg]
        have h1 : ofd 10 0 (dvals d) < 10 ^ d.length := by have := ofd_lt d 0 hd; omega
        exact limbs_of_bits (Nat.lt_of_lt_of_le h1 (ten_pow _)) (by omega)
      · exact h0
theorem parE_fits (s : List UInt8) : fits (parE s).1 := parD_fits _ _
end Go.Proofs.YtfhbigfbeppinaaGreatDoor
