/- Magnitudes: walks of compare, subtract. Conditions: none. -/
import Derived.Test.YtkfpcohdbbhmaaaDoorBi2
namespace Go.Proofs.YtkfpcohdbbhmaaaDoor
set_option linter.unusedVariables false
set_option linter.unusedSimpArgs false
open Go.RowKit Big

theorem ord_lt {a b : Nat} (h : a < b) : ord a b = -1 := by unfold ord; rw [if_pos h]
theorem ord_gt {a b : Nat} (h : b < a) : ord a b = 1 := by unfold ord; rw [if_neg (by omega), if_pos h]
theorem ord_eq (a : Nat) : ord a a = 0 := by unfold ord; rw [if_neg (by omega), if_neg (by omega)]

def RetI (w : World) (n : Int) (e : Ending) (w' : World) : Prop := e = .returned (.int .i64 n) ∧ Below w.heap.size w w'

theorem drop_step {xs ys : List Nat} {k : Nat} (hx : k - 1 < xs.length) (hy : k - 1 < ys.length) (hk : 0 < k) (h : xs.drop k = ys.drop k) (he : xs[k - 1] = ys[k - 1]) : xs.drop (k - 1) = ys.drop (k - 1) := by
  rw [List.drop_eq_getElem_cons hx, List.drop_eq_getElem_cons hy, he, show k - 1 + 1 = k by omega, h]

set_option maxHeartbeats 1000000 in
theorem compare_any (A B : Option Addr) (c d : Nat) (xs ys : List Nat) (w : World) (ha : Mg w A c xs) (hb : Mg w B d ys) (na : Nrm xs) (nb : Nrm ys) :
    Calls Tryd.prog 82 #[.slice A xs.length c, .slice B ys.length d] w (RetI w (ord (val xs) (val ys))) := by
  have m1 := ha.cap
  have m2 := ha.max
  have m3 := hb.cap
  have m4 := hb.max
  by_cases hl : xs.length = ys.length
  · have hl1 : ((xs.length : Int) != (ys.length : Int)) = false := by simp [hl]
    have HL := hid hl
    clear hl
    go_enter Tryd.func82, Tryd.ntmps82
    go_wp2
    go_loopw [5] (fun i wr => ∃ k : Nat, k ≤ xs.length ∧ i = .int .i64 ((k : Int) - 1) ∧ Below w.heap.size w wr ∧ Hid (xs.drop k = ys.drop k)) (fun i _ => (intOf i + 1).toNat)
    case atStart => exact ⟨xs.length, Nat.le_refl _, rfl, Below.refl _ _, by unfold Hid; rw [List.drop_length, HL.out, List.drop_length]⟩
    case round =>
      obtain ⟨k, hk, rfl, hbl, heq⟩ := hrel
      by_cases h0 : 0 < k
      · have hk1 : k - 1 < xs.length := by omega
        have hk2 : k - 1 < ys.length := by have := HL.out; omega
        obtain ⟨ba, oa, rfl, hba, hca⟩ := ha.rd.at_ hk1
        obtain ⟨bb, ob, rfl, hbb, hcb⟩ := hb.rd.at_ hk2
        have c1 := (hbl.cell (p := ⟨ba, oa + (k - 1), none⟩) hba).trans (hca (k - 1) hk1)
        have c2 := (hbl.cell (p := ⟨bb, ob + (k - 1), none⟩) hbb).trans (hcb (k - 1) hk2)
        unfold lim at c1 c2
        clear hca hcb
        have D := fun h => val_drop_lt (a := xs) (b := ys) ha.ok (k - 1) HL.out hk1 (by rw [show k - 1 + 1 = k by omega]; exact heq.out) h
        have E := fun h => val_drop_lt (a := ys) (b := xs) hb.ok (k - 1) HL.out.symm hk2 (by rw [show k - 1 + 1 = k by omega]; exact heq.out.symm) h
        have HD := hid D
        have HE := hid E
        clear D E
        by_cases hlt : xs[k - 1] < ys[k - 1]
        · have t1 : decide ((xs[k - 1] : Int) < (ys[k - 1] : Int)) = true := by simp; omega
          go_wp2
          go_quiet (fail)
          go_wp2
          go_ret
          exact ⟨ret_int (ord_lt (HD.out hlt)).symm, (by repeat (first | exact hbl | refine Below.drew ?_ | refine below_drewN ?_ _ | refine Below.setCell ?_ (by exact Nat.le_refl _) _ | refine Below.alloc ?_ (by simp; omega) _))⟩
        · have t1 : decide ((xs[k - 1] : Int) < (ys[k - 1] : Int)) = false := by simp; omega
          by_cases hgt : ys[k - 1] < xs[k - 1]
          · have t2 : decide ((ys[k - 1] : Int) < (xs[k - 1] : Int)) = true := by simp; omega
            go_wp2
            go_quiet (fail)
            go_wp2
            go_quiet (fail)
            go_wp2
            go_ret
            exact ⟨ret_int (ord_gt (HE.out hgt)).symm, (by repeat (first | exact hbl | refine Below.drew ?_ | refine below_drewN ?_ _ | refine Below.setCell ?_ (by exact Nat.le_refl _) _ | refine Below.alloc ?_ (by simp; omega) _))⟩
          · have t2 : decide ((ys[k - 1] : Int) < (xs[k - 1] : Int)) = false := by simp; omega
            have he : Hid (xs[k - 1] = ys[k - 1]) := Nat.le_antisymm (by omega) (by omega)
            go_wp2
            go_quiet (fail)
            go_wp2
            go_quiet (fail)
            go_wp2
            go_roundw
            case rel => exact ⟨k - 1, by omega, by go_num, (by repeat (first | exact hbl | refine Below.drew ?_ | refine below_drewN ?_ _ | refine Below.setCell ?_ (by exact Nat.le_refl _) _ | refine Below.alloc ?_ (by simp; omega) _)), drop_step hk1 hk2 h0 heq.out he.out⟩
            case measure => simp [intOf]; omega
      · have hk0 : k = 0 := by omega
        subst hk0
        go_wp2
        go_ret
        have e : xs = ys := heq.out
        subst e
        exact ⟨ret_int (ord_eq _).symm, hbl⟩
  · have hl1 : ((xs.length : Int) != (ys.length : Int)) = true := by simp; omega
    by_cases hlt : xs.length < ys.length
    · have h2 : (xs.length : Int) < (ys.length : Int) := by omega
      go_enter Tryd.func82, Tryd.ntmps82
      go_wp2
      go_ret
      exact ⟨ret_int (ord_lt (val_len_lt ha.ok nb hlt)).symm, Below.refl _ _⟩
    · have h2 : ¬ (xs.length : Int) < (ys.length : Int) := by omega
      go_enter Tryd.func82, Tryd.ntmps82
      go_wp2
      go_ret
      exact ⟨ret_int (ord_gt (val_len_lt hb.ok na (by omega))).symm, Below.refl _ _⟩

theorem sub_lo (x y q : Nat) (hx : x < 4294967296) (hy : y < 4294967296) (hq : q ≤ 1) : IntKind.u64.wrap (IntKind.u64.wrap ((x : Int) - q) - y) % 4294967296 = (((x + 4294967296 - (y + q)) % 4294967296 : Nat) : Int) := by
  simp only [IntKind.wrap_u64]; omega
theorem sub_hi (x y q : Nat) (hx : x < 4294967296) (hy : y < 4294967296) (hq : q ≤ 1) : IntKind.u64.wrap (IntKind.u64.wrap ((x : Int) - q) - y) / 9223372036854775808 = ((if x < y + q then 1 else 0 : Nat) : Int) := by
  simp only [IntKind.wrap_u64]; split <;> omega
theorem sub_lo1 (x q : Nat) (hx : x < 4294967296) (hq : q ≤ 1) : IntKind.u64.wrap ((x : Int) - q) % 4294967296 = (((x + 4294967296 - q) % 4294967296 : Nat) : Int) := by
  simp only [IntKind.wrap_u64]; omega
theorem sub_hi1 (x q : Nat) (hx : x < 4294967296) (hq : q ≤ 1) : IntKind.u64.wrap ((x : Int) - q) / 9223372036854775808 = ((if x < q then 1 else 0 : Nat) : Int) := by
  simp only [IntKind.wrap_u64]; split <;> omega
theorem ite_le1 (p : Prop) [Decidable p] : (if p then 1 else 0 : Nat) ≤ 1 := by split <;> omega
theorem val_i {k : IntKind} {a b : Int} (h : a = b) : Value.int k a = .int k b := by rw [h]

def SubAt (xs ys : List Nat) (k q : Nat) (L : List Nat) : Prop :=
  ∃ D : List Nat, D.length = k ∧ L = D ++ List.replicate (xs.length - k) 0 ∧ subB xs ys 0 = D ++ subB (xs.drop k) (ys.drop k) q
theorem SubAt.len {xs ys L : List Nat} {k q : Nat} (h : SubAt xs ys k q L) (hk : k ≤ xs.length) : L.length = xs.length := by
  obtain ⟨D, h1, h2, _⟩ := h; subst h2; simp; omega
theorem SubAt.start (xs ys : List Nat) : SubAt xs ys 0 0 (List.replicate xs.length 0) := ⟨[], rfl, by simp, by simp⟩
theorem SubAt.both {xs ys L : List Nat} {k q : Nat} (h : SubAt xs ys k q L) (hx : k < xs.length) (hy : k < ys.length) :
    SubAt xs ys (k + 1) (if xs[k] < ys[k] + q then 1 else 0) (L.set k ((xs[k] + 4294967296 - (ys[k] + q)) % 4294967296)) := by
  obtain ⟨D, h1, h2, h3⟩ := h
  refine ⟨D ++ [(xs[k] + 4294967296 - (ys[k] + q)) % 4294967296], by simp [h1], ?_, ?_⟩
  · rw [h2, set_zeros D _ _ k h1 (by omega)]; congr 2
  · rw [h3, List.drop_eq_getElem_cons hx, List.drop_eq_getElem_cons hy, subB]
    simp
theorem SubAt.left {xs ys L : List Nat} {k q : Nat} (h : SubAt xs ys k q L) (hx : k < xs.length) (hy : ys.length ≤ k) :
    SubAt xs ys (k + 1) (if xs[k] < q then 1 else 0) (L.set k ((xs[k] + 4294967296 - q) % 4294967296)) := by
  obtain ⟨D, h1, h2, h3⟩ := h
  refine ⟨D ++ [(xs[k] + 4294967296 - q) % 4294967296], by simp [h1], ?_, ?_⟩
  · rw [h2, set_zeros D _ _ k h1 (by omega)]; congr 2
  · rw [h3, List.drop_eq_getElem_cons hx, List.drop_of_length_le hy, List.drop_of_length_le (by omega : ys.length ≤ k + 1), subB]
    simp
theorem SubAt.last {xs ys L : List Nat} {q : Nat} (h : SubAt xs ys xs.length q L) : L = subB xs ys 0 := by
  obtain ⟨D, h1, h2, h3⟩ := h
  rw [h3, h2, List.drop_length, subB]
  simp

theorem sub_fin {A B : Option Addr} {c d : Nat} {xs ys L : List Nat} {w wr : World} {q : Nat} {R : Ending → World → Prop} (ha : Mg w A c xs) (hb : Mg w B d ys) (hl : ys.length ≤ xs.length) (hle : val ys ≤ val xs) (hs : xs.length ≤ 1073741824)
    (hat : SubAt xs ys xs.length q L) (hL : LB wr w.heap.size L) (hbl : Below w.heap.size w wr) (hR : ∀ e w', RetN w (val xs - val ys) e w' → R e w') :
    Calls Tryd.prog 86 #[.slice (some ⟨w.heap.size, 0, none⟩) xs.length xs.length] wr R := by
  have e := hat.last
  subst e
  have hll : (subB xs ys 0).length = xs.length := length_subB _ _ _
  have hm := hL.mg (ok_subB xs ys 0) (by omega)
  have ht := trim_any _ _ _ _ hm
  rw [hll, val_subB xs ys 0 ha.ok hb.ok (by omega) hl (by omega), Nat.sub_zero] at ht
  refine ht.mono fun e' w' h => hR _ _ ?_
  obtain ⟨A', c', h1, h2, h3⟩ := h
  exact ⟨A', c', h1, h2, hbl.trans (h3.mono hbl.size)⟩

set_option maxHeartbeats 1000000 in
theorem subtract_any (A B : Option Addr) (c d : Nat) (xs ys : List Nat) (w : World) (ha : Mg w A c xs) (hb : Mg w B d ys) (hl : ys.length ≤ xs.length) (hle : val ys ≤ val xs) (hs : xs.length ≤ 1073741824) :
    Calls Tryd.prog 53 #[.slice A xs.length c, .slice B ys.length d] w (RetN w (val xs - val ys)) := by
  have hmk := make32 xs.length (by omega)
  have HLE := hid hle
  clear hle
  go_enter Tryd.func53, Tryd.ntmps53
  go_wp2
  go_loopw [6, 14] (fun cr i wr => ∃ (k q : Nat) (L : List Nat), k ≤ xs.length ∧ i = .int .i64 k ∧ cr = .int .u64 q ∧ q ≤ 1 ∧ Below w.heap.size w wr ∧ LB wr w.heap.size L ∧ SubAt xs ys k q L) (fun _ i _ => xs.length - (intOf i).toNat)
  case atStart => exact ⟨0, 0, _, Nat.zero_le _, rfl, rfl, by omega, (Below.refl _ _).alloc (Nat.le_refl _) _, LB.made w xs.length, .start _ _⟩
  case round =>
    obtain ⟨k, q, L, hk, rfl, rfl, hq, hbl, hL, hat⟩ := hrel
    have hgl := hL.lt
    by_cases hkl : k < xs.length
    · have hkL : k < L.length := by rw [hat.len hk]; exact hkl
      have cell0 := hL.cell k hkL
      have free0 := hL.free k
      have hwz := hbl.size
      obtain ⟨ba, oa, rfl, hba, hca⟩ := ha.rd.at_ hkl
      have c1 := (hbl.cell (p := ⟨ba, oa + k, none⟩) hba).trans (hca k hkl)
      have o1 := ha.ok.get hkl
      have hba2 : ba < wr.heap.size := by omega
      unfold lim at c1
      clear hca
      by_cases hky : k < ys.length
      · obtain ⟨bb, ob, rfl, hbb, hcb⟩ := hb.rd.at_ hky
        have c2 := (hbl.cell (p := ⟨bb, ob + k, none⟩) hbb).trans (hcb k hky)
        have o2 := hb.ok.get hky
        have hbb2 : bb < wr.heap.size := by omega
        unfold lim at c2
        clear hcb
        go_wp2
        go_roundw
        case rel => exact ⟨k + 1, _, _, by omega, by go_num, val_i (sub_hi _ _ _ o1 o2 hq), ite_le1 _, (by repeat (first | exact hbl | refine Below.drew ?_ | refine below_drewN ?_ _ | refine Below.setCell ?_ (by exact Nat.le_refl _) _ | refine Below.alloc ?_ (by simp; omega) _)), hL.set_ _ _ _ (sub_lo _ _ _ o1 o2 hq), hat.both hkl hky⟩
        case measure => simp [intOf]; omega
      · go_wp2
        go_roundw
        case rel => exact ⟨k + 1, _, _, by omega, by go_num, val_i (sub_hi1 _ _ o1 hq), ite_le1 _, (by repeat (first | exact hbl | refine Below.drew ?_ | refine below_drewN ?_ _ | refine Below.setCell ?_ (by exact Nat.le_refl _) _ | refine Below.alloc ?_ (by simp; omega) _)), hL.set_ _ _ _ (sub_lo1 _ _ o1 hq), hat.left hkl (by omega)⟩
        case measure => simp [intOf]; omega
    · obtain rfl : k = xs.length := by omega
      go_wp2_with (go_at_call 86; refine sub_fin ha hb hl HLE.out hs hat hL hbl ?_; rintro e w1 ⟨R, cc, rfl, hr1, hr2⟩)
      go_ret
      exact ⟨R, cc, rfl, hr1, hr2⟩

end Go.Proofs.YtkfpcohdbbhmaaaDoor
