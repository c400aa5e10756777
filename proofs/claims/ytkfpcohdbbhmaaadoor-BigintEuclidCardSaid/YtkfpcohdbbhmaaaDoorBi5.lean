/- Magnitudes: the walk of multiply. Conditions: none. -/
import Derived.Test.YtkfpcohdbbhmaaaDoorBi4
namespace Go.Proofs.YtkfpcohdbbhmaaaDoor
set_option linter.unusedVariables false
set_option linter.unusedSimpArgs false
open Go.RowKit Big

def MulAt (xs ys : List Nat) (k : Nat) (L : List Nat) : Prop :=
  ∃ D acc : List Nat, D.length = k ∧ acc.length = ys.length ∧ Ok acc ∧ L = D ++ acc ++ List.replicate (xs.length - k) 0 ∧ mulL xs ys (List.replicate ys.length 0) = D ++ mulL (xs.drop k) ys acc
def MulIn (xs ys : List Nat) (k j q : Nat) (L : List Nat) : Prop :=
  ∃ D acc N : List Nat, D.length = k ∧ acc.length = ys.length ∧ N.length = j ∧ Ok acc ∧ L = D ++ N ++ acc.drop j ++ List.replicate (xs.length - k) 0 ∧ mulL xs ys (List.replicate ys.length 0) = D ++ mulL (xs.drop k) ys acc ∧
    mulRow (xs.getD k 0) ys acc 0 = N ++ mulRow (xs.getD k 0) (ys.drop j) (acc.drop j) q

theorem MulAt.len {xs ys L : List Nat} {k : Nat} (h : MulAt xs ys k L) (hk : k ≤ xs.length) : L.length = xs.length + ys.length := by
  obtain ⟨D, acc, h1, h2, _, h3, _⟩ := h; subst h3; simp; omega
theorem MulIn.len {xs ys L : List Nat} {k j q : Nat} (h : MulIn xs ys k j q L) (hk : k ≤ xs.length) (hj : j ≤ ys.length) : L.length = xs.length + ys.length := by
  obtain ⟨D, acc, N, h1, h2, h3, _, h4, _⟩ := h; subst h4; simp; omega
theorem MulAt.start (xs ys : List Nat) : MulAt xs ys 0 (List.replicate (xs.length + ys.length) 0) :=
  ⟨[], List.replicate ys.length 0, rfl, by simp, Ok.rep _, by simp [Nat.add_comm], by simp⟩
theorem MulAt.inner {xs ys L : List Nat} {k : Nat} (h : MulAt xs ys k L) : MulIn xs ys k 0 0 L := by
  obtain ⟨D, acc, h1, h2, h3, h4, h5⟩ := h
  exact ⟨D, acc, [], h1, h2, rfl, h3, by simpa using h4, h5, by simp⟩
theorem MulIn.got {xs ys L : List Nat} {k j q : Nat} (h : MulIn xs ys k j q L) (hj : j < ys.length) (hL : k + j < L.length) : L[k + j] < 4294967296 := by
  obtain ⟨D, acc, N, h1, h2, h3, h4, h5, _⟩ := h
  have e : L[k + j]? = acc[j]? := by
    rw [h5, List.append_assoc, List.append_assoc, List.getElem?_append_right (by omega), List.getElem?_append_right (by omega), h1, h3, show k + j - k - j = 0 by omega, List.getElem?_append_left (by simp; omega)]
    simp
  rw [List.getElem?_eq_getElem hL, List.getElem?_eq_getElem (by omega)] at e
  rw [Option.some.inj e]
  exact h4.get (by omega)
theorem MulIn.step {xs ys L : List Nat} {k j q : Nat} (h : MulIn xs ys k j q L) (hk : k < xs.length) (hj : j < ys.length) (hL : k + j < L.length) :
    MulIn xs ys k (j + 1) ((xs[k] * ys[j] + L[k + j] + q) / 4294967296) (L.set (k + j) ((xs[k] * ys[j] + L[k + j] + q) % 4294967296)) := by
  obtain ⟨D, acc, N, h1, h2, h3, h4, h5, h6, h7⟩ := h
  have e : L[k + j]? = acc[j]? := by
    rw [h5, List.append_assoc, List.append_assoc, List.getElem?_append_right (by omega), List.getElem?_append_right (by omega), h1, h3, show k + j - k - j = 0 by omega, List.getElem?_append_left (by simp; omega)]
    simp
  have hja : j < acc.length := by omega
  rw [List.getElem?_eq_getElem hL, List.getElem?_eq_getElem hja] at e
  have e' := Option.some.inj e
  rw [e']
  have hxk : xs.getD k 0 = xs[k] := by simp [hk]
  rw [hxk] at h7
  refine ⟨D, acc, N ++ [(xs[k] * ys[j] + acc[j] + q) % 4294967296], h1, h2, by simp [h3], h4, ?_, h6, ?_⟩
  · rw [h5, List.drop_eq_getElem_cons hja, List.append_assoc, List.append_assoc, List.set_append_right _ _ (by omega), List.set_append_right _ _ (by omega), h1, h3, show k + j - k - j = 0 by omega, List.cons_append, List.set_cons_zero]
    simp
  · rw [hxk, h7, List.drop_eq_getElem_cons hj, List.drop_eq_getElem_cons hja, mulRow]
    simp
theorem MulIn.done {xs ys L : List Nat} {k q : Nat} (h : MulIn xs ys k ys.length q L) (hx : Ok xs) (hy : Ok ys) (hq : q < 4294967296) (hk : k < xs.length) : MulAt xs ys (k + 1) (L.set (k + ys.length) q) := by
  obtain ⟨D, acc, N, h1, h2, h3, h4, h5, h6, h7⟩ := h
  have hxk : xs.getD k 0 = xs[k] := by simp [hk]
  rw [hxk, List.drop_length, mulRow] at h7
  have hrow := ok_mulRow xs[k] ys acc 0 (hx.get hk) hy h4 (by omega)
  have hlen := length_mulRow xs[k] ys acc 0
  rw [List.drop_eq_getElem_cons hk, mulL] at h6
  rw [h7] at hrow hlen h6
  rw [List.drop_of_length_le (by omega), List.append_nil] at h5
  have hset : L.set (k + ys.length) q = D ++ (N ++ [q]) ++ List.replicate (xs.length - (k + 1)) 0 := by
    rw [h5, List.set_append_right _ _ (by simp; omega)]
    obtain ⟨m, hm⟩ : ∃ m, xs.length - k = m + 1 := ⟨xs.length - k - 1, by omega⟩
    rw [hm, show k + ys.length - (D ++ N).length = 0 by simp; omega, List.replicate_succ, show xs.length - (k + 1) = m by omega]
    simp
  rw [hset]
  cases hN : N ++ [q] with
  | nil => simp at hN
  | cons r row =>
    rw [hN] at hrow hlen h6
    refine ⟨D ++ [r], row, by simp [h1], by simp at hlen; exact hlen, hrow.tail, by simp, ?_⟩
    rw [h6]; simp
theorem MulAt.last {xs ys L : List Nat} (h : MulAt xs ys xs.length L) : L = mulL xs ys (List.replicate ys.length 0) := by
  obtain ⟨D, acc, h1, h2, _, h3, h4⟩ := h
  rw [h4, h3, List.drop_length, mulL]; simp

set_option maxHeartbeats 2000000 in
theorem multiply_any (A B : Option Addr) (c d : Nat) (xs ys : List Nat) (w : World) (ha : Mg w A c xs) (hb : Mg w B d ys) (hs : xs.length ≤ 1073741824) (ht : ys.length ≤ 1073741824) :
    Calls Tryd.prog 63 #[.slice A xs.length c, .slice B ys.length d] w (RetN w (val xs * val ys)) := by
  have hmk := make32 (xs.length + ys.length) (by omega)
  rw [show ((xs.length + ys.length : Nat) : Int) = (xs.length : Int) + (ys.length : Int) from by omega] at hmk
  go_enter Tryd.func63, Tryd.ntmps63
  go_wp2
  go_loopw [20] (fun i wr => ∃ (k : Nat) (L : List Nat), k ≤ xs.length ∧ i = .int .i64 k ∧ Below w.heap.size w wr ∧ LB wr w.heap.size L ∧ MulAt xs ys k L) (fun i _ => xs.length - (intOf i).toNat)
  case atStart => exact ⟨0, _, Nat.zero_le _, rfl, (Below.refl _ _).alloc (Nat.le_refl _) _, LB.made w (xs.length + ys.length), .start _ _⟩
  case round =>
    obtain ⟨k, L0, hk, rfl, hbl0, hL0, hat0⟩ := hrel
    obtain ⟨wo, rfl⟩ : ∃ wo : World, wo = wr := ⟨_, rfl⟩
    by_cases hkl : k < xs.length
    · obtain ⟨ba, oa, rfl, hba, hca⟩ := ha.rd.at_ hkl
      have c1 := (hbl0.cell (p := ⟨ba, oa + k, none⟩) hba).trans (hca k hkl)
      have o1 := ha.ok.get hkl
      unfold lim at c1
      clear hca
      go_wp2
      go_loopw [8, 27] (fun cr i wr => ∃ (j q : Nat) (L : List Nat), j ≤ ys.length ∧ i = .int .i64 j ∧ cr = .int .u32 q ∧ q < 4294967296 ∧ Below w.heap.size w wr ∧ LB wr w.heap.size L ∧ MulIn xs ys k j q L) (fun _ i _ => ys.length - (intOf i).toNat)
      case atStart => exact ⟨0, 0, L0, Nat.zero_le _, rfl, rfl, by omega, hbl0, hL0, hat0.inner⟩
      case round =>
        obtain ⟨j, q, L, hj, rfl, rfl, hq, hbl, hL, hat⟩ := hrel
        clear c1 hbl0 hL0 hat0
        have hgl := hL.lt
        have hwz := hbl.size
        have hkL : k + j < L.length := by rw [hat.len hk hj]; omega
        have cell0 := hL.cell (k + j) hkL
        have free0 := hL.free (k + j)
        by_cases hjl : j < ys.length
        · obtain ⟨bb, ob, rfl, hbb, hcb⟩ := hb.rd.at_ hjl
          have c2 := (hbl.cell (p := ⟨bb, ob + j, none⟩) hbb).trans (hcb j hjl)
          have o2 := hb.ok.get hjl
          have o3 := hat.got hjl hkL
          have hbb2 : bb < wr.heap.size := by omega
          unfold lim at c2
          clear hcb
          obtain ⟨p0, p1⟩ := prod_bd xs[k] ys[j] o1 o2
          have hmb := mul_bound o1 o2 o3 hq
          go_wp2_with (go_at_call 88; refine (split_any _ _ (by omega) (by omega)).mono ?_; rintro e w1 ⟨rfl, hb1⟩; obtain ⟨hc1, hf1⟩ := bcell hb1; have hgl1 := Nat.lt_of_lt_of_le hgl hb1.size)
          go_region
          go_wp2
          go_roundw
          case rel => exact ⟨j + 1, (xs[k] * ys[j] + L[k + j] + q) / 4294967296, L.set (k + j) ((xs[k] * ys[j] + L[k + j] + q) % 4294967296), by omega, by go_num, val_i (by rw [muladd]; omega), by omega, (by repeat (first | exact hbl | exact hbl.trans (hb1.mono hwz) | refine Below.drew ?_ | refine below_drewN ?_ _ | refine Below.setCell ?_ (by exact Nat.le_refl _) _ | refine Below.alloc ?_ (by simp; omega) _)), (by repeat (first | exact hL | exact hL.below hb1 hgl | refine LB.drew ?_ | refine LB.drewN ?_ _ | refine LB.alloc ?_ _ | refine LB.set_ ?_ _ _ _ (by rw [muladd]; omega))), hat.step hkl hjl hkL⟩
          case measure => simp [intOf]; omega
        · obtain rfl : j = ys.length := by omega
          go_wp2
          go_roundw
          case rel => exact ⟨k + 1, L.set (k + ys.length) q, by omega, by go_num, (by repeat (first | exact hbl | refine Below.drew ?_ | refine below_drewN ?_ _ | refine Below.setCell ?_ (by exact Nat.le_refl _) _ | refine Below.alloc ?_ (by simp; omega) _)), hL.set_ _ _ _ rfl, hat.done ha.ok hb.ok hq hkl⟩
          case measure => simp [intOf]; omega
    · obtain rfl : k = xs.length := by omega
      go_wp2_with (go_at_call 86; refine trim_fin hL0 (by rw [hat0.last]; exact ok_mulL _ _ _ ha.ok hb.ok (Ok.rep _)) (hat0.len (Nat.le_refl _)) (by omega) (val xs * val ys) (by rw [hat0.last, val_mulL _ _ _ (by simp), val_rep, Nat.add_zero]) hbl0 ?_; rintro e w1 ⟨R, cc, rfl, hr1, hr2⟩)
      go_ret
      exact ⟨R, cc, rfl, hr1, hr2⟩

end Go.Proofs.YtkfpcohdbbhmaaaDoor
