/- Magnitudes: walks of split, add. Conditions: none. -/
import Derived.Test.YtkfpcohdbbhmaaaDoorBi1
namespace Go.Proofs.YtkfpcohdbbhmaaaDoor
set_option linter.unusedVariables false
set_option linter.unusedSimpArgs false
open Go.RowKit Big

/-- split: the low and the high limb. -/
theorem split_any (p : Int) (w : World) (h0 : 0 ≤ p) (hp : p ≤ 18446744073709551615) :
    Calls Tryd.prog 88 #[.int .u64 p] w fun e w' => e = .returned (.agg #[.int .u32 (p % 4294967296), .int .u32 (p / 4294967296)]) ∧ Below w.heap.size w w' := by
  obtain ⟨n, rfl⟩ := Int.eq_ofNat_of_zero_le h0
  go_enter Tryd.func88, Tryd.ntmps88
  go_wp2
  exact bodyPost_ret (v := .agg #[.int .u32 ((n : Int) % 4294967296), .int .u32 ((n : Int) / 4294967296)]) (by simp [results, Tryd.results88, go_sem]) rfl ⟨rfl, (Below.refl _ _).alloc (Nat.le_refl _) _⟩

theorem set_zeros (D : List Nat) (m s k : Nat) (hk : D.length = k) (hm : 0 < m) : (D ++ List.replicate m 0).set k s = (D ++ [s]) ++ List.replicate (m - 1) 0 := by
  obtain ⟨m, rfl⟩ : ∃ q, m = q + 1 := ⟨m - 1, by omega⟩
  subst hk
  rw [List.set_append_right _ _ (Nat.le_refl _)]
  simp [List.replicate_succ]

/-- what the loop of add holds in its memory -/
def AddAt (xs ys : List Nat) (k q : Nat) (L : List Nat) : Prop :=
  ∃ D : List Nat, D.length = k ∧ L = D ++ List.replicate (xs.length + 1 - k) 0 ∧ addC xs ys 0 = D ++ addC (xs.drop k) (ys.drop k) q

theorem AddAt.len {xs ys L : List Nat} {k q : Nat} (h : AddAt xs ys k q L) (hk : k ≤ xs.length + 1) : L.length = xs.length + 1 := by
  obtain ⟨D, h1, h2, _⟩ := h; subst h2; simp; omega
theorem AddAt.start (xs ys : List Nat) : AddAt xs ys 0 0 (List.replicate (xs.length + 1) 0) := ⟨[], rfl, by simp, by simp⟩
theorem AddAt.both {xs ys L : List Nat} {k q : Nat} (h : AddAt xs ys k q L) (hx : k < xs.length) (hy : k < ys.length) :
    AddAt xs ys (k + 1) ((xs[k] + q + ys[k]) / 4294967296) (L.set k ((xs[k] + q + ys[k]) % 4294967296)) := by
  obtain ⟨D, h1, h2, h3⟩ := h
  refine ⟨D ++ [(xs[k] + q + ys[k]) % 4294967296], by simp [h1], ?_, ?_⟩
  · rw [h2, set_zeros D _ _ k h1 (by omega)]; congr 2
  · rw [h3, List.drop_eq_getElem_cons hx, List.drop_eq_getElem_cons hy, addC, show xs[k] + ys[k] + q = xs[k] + q + ys[k] by omega]
    simp
theorem AddAt.left {xs ys L : List Nat} {k q : Nat} (h : AddAt xs ys k q L) (hx : k < xs.length) (hy : ys.length ≤ k) :
    AddAt xs ys (k + 1) ((xs[k] + q) / 4294967296) (L.set k ((xs[k] + q) % 4294967296)) := by
  obtain ⟨D, h1, h2, h3⟩ := h
  refine ⟨D ++ [(xs[k] + q) % 4294967296], by simp [h1], ?_, ?_⟩
  · rw [h2, set_zeros D _ _ k h1 (by omega)]; congr 2
  · rw [h3, List.drop_eq_getElem_cons hx, List.drop_of_length_le hy, List.drop_of_length_le (by omega : ys.length ≤ k + 1), addC]
    simp
theorem AddAt.last {xs ys L : List Nat} {k q : Nat} (h : AddAt xs ys k q L) (hx : k = xs.length) (hy : ys.length ≤ k) : L.set k q = addC xs ys 0 := by
  obtain ⟨D, h1, h2, h3⟩ := h
  rw [h3, h2, set_zeros D _ _ k h1 (by omega), List.drop_of_length_le (by omega), List.drop_of_length_le hy, addC, show xs.length + 1 - k - 1 = 0 by omega]
  simp

theorem add_fin {A B : Option Addr} {c d : Nat} {xs ys L : List Nat} {w wr : World} {q : Nat} {R : Ending → World → Prop} (ha : Mg w A c xs) (hb : Mg w B d ys) (hl : ys.length ≤ xs.length) (hs : xs.length ≤ 1073741824)
    (hat : AddAt xs ys xs.length q L) (hL : LB wr w.heap.size L) (hbl : Below w.heap.size w wr) (hq : q ≤ 1) (hR : ∀ e w', RetN w (val xs + val ys) e w' → R e w') :
    Calls Tryd.prog 86 #[.slice (some ⟨w.heap.size, 0, none⟩) (xs.length + 1) (xs.length + 1)] (wr.setCell ⟨w.heap.size, xs.length, none⟩ (.int .u32 q)) R := by
  have hlen := hat.len (Nat.le_succ _)
  have e := hat.last rfl hl
  have hS := hL.set_ xs.length (q : Int) q rfl
  rw [e] at hS
  have hll : (addC xs ys 0).length = xs.length + 1 := by rw [length_addC]; omega
  have hm := hS.mg (ok_addC xs ys 0 ha.ok hb.ok (by omega)) (by omega)
  have ht := trim_any _ _ _ _ hm
  rw [hll, val_addC] at ht
  refine ht.mono fun e' w' h => hR _ _ ?_
  obtain ⟨A', c', h1, h2, h3⟩ := h
  exact ⟨A', c', h1, h2, (hbl.setCell (by exact Nat.le_refl _) _).trans (h3.mono (by simpa using hbl.size))⟩

set_option maxHeartbeats 1000000 in
theorem add_le (A B : Option Addr) (c d : Nat) (xs ys : List Nat) (w : World) (ha : Mg w A c xs) (hb : Mg w B d ys) (hl : ys.length ≤ xs.length) (hs : xs.length ≤ 1073741824) :
    Calls Tryd.prog 52 #[.slice A xs.length c, .slice B ys.length d] w (RetN w (val xs + val ys)) := by
  have hlt : ¬ (xs.length : Int) < (ys.length : Int) := by omega
  have hmk := make32 (xs.length + 1) (by omega)
  rw [show ((xs.length + 1 : Nat) : Int) = (xs.length : Int) + 1 from by omega] at hmk
  go_enter Tryd.func52, Tryd.ntmps52
  go_wp2
  go_loopw [6, 23] (fun cr i wr => ∃ (k q : Nat) (L : List Nat), k ≤ xs.length ∧ i = .int .i64 k ∧ cr = .int .u32 q ∧ q ≤ 1 ∧ Below w.heap.size w wr ∧ LB wr w.heap.size L ∧ AddAt xs ys k q L) (fun _ i _ => xs.length - (intOf i).toNat)
  case atStart => exact ⟨0, 0, _, Nat.zero_le _, rfl, rfl, by omega, (Below.refl _ _).alloc (Nat.le_refl _) _, LB.made w (xs.length + 1), .start _ _⟩
  case round =>
    obtain ⟨k, q, L, hk, rfl, rfl, hq, hbl, hL, hat⟩ := hrel
    have hgl := hL.lt
    have hlen := hat.len (by omega)
    have hkL : k < L.length := by omega
    have HL := hid hlen
    clear hlen
    have cell0 := hL.cell k hkL
    have free0 := hL.free k
    have hwz := hbl.size
    by_cases hkl : k < xs.length
    · obtain ⟨ba, oa, rfl, hba, hca⟩ := ha.rd.at_ hkl
      have c1 := (hbl.cell (p := ⟨ba, oa + k, none⟩) hba).trans (hca k hkl)
      have o1 := ha.ok.get hkl
      have hba2 : ba < wr.heap.size := by omega
      unfold lim at c1
      clear hca
      by_cases hky : k < ys.length
      · obtain ⟨bb, ob, rfl, hbb, hcb⟩ := hb.rd.at_ hky
        have c2 := (hbl.cell (p := ⟨bb, ob + k, none⟩) hbb).trans (hcb k hky)
        have o2 := hb.ok.get hky
        have hbb2 : bb < wr.heap.size := by omega
        unfold lim at c2
        clear hcb
        go_wp2_with (go_at_call 88; refine (split_any _ _ (by omega) (by omega)).mono ?_; rintro e w1 ⟨rfl, hb1⟩; obtain ⟨hc1, hf1⟩ := bcell hb1; have hgl1 := Nat.lt_of_lt_of_le hgl hb1.size)
        go_region
        go_wp2
        go_roundw
        case rel => exact ⟨k + 1, (xs[k] + q + ys[k]) / 4294967296, L.set k ((xs[k] + q + ys[k]) % 4294967296), by omega, by go_num, by go_num, by omega, (by repeat (first | exact hbl | exact hbl.trans (hb1.mono hwz) | refine Below.drew ?_ | refine below_drewN ?_ _ | refine Below.setCell ?_ (by exact Nat.le_refl _) _ | refine Below.alloc ?_ (by simp; omega) _)), (by repeat (first | exact hL | exact hL.below hb1 hgl | refine LB.drew ?_ | refine LB.drewN ?_ _ | refine LB.alloc ?_ _ | refine LB.set_ ?_ _ _ _ (by omega))), hat.both hkl hky⟩
        case measure => simp [intOf]; omega
      · go_wp2_with (go_at_call 88; refine (split_any _ _ (by omega) (by omega)).mono ?_; rintro e w1 ⟨rfl, hb1⟩; obtain ⟨hc1, hf1⟩ := bcell hb1; have hgl1 := Nat.lt_of_lt_of_le hgl hb1.size)
        go_region
        go_wp2
        go_roundw
        case rel => exact ⟨k + 1, (xs[k] + q) / 4294967296, L.set k ((xs[k] + q) % 4294967296), by omega, by go_num, by go_num, by omega, (by repeat (first | exact hbl | exact hbl.trans (hb1.mono hwz) | refine Below.drew ?_ | refine below_drewN ?_ _ | refine Below.setCell ?_ (by exact Nat.le_refl _) _ | refine Below.alloc ?_ (by simp; omega) _)), (by repeat (first | exact hL | exact hL.below hb1 hgl | refine LB.drew ?_ | refine LB.drewN ?_ _ | refine LB.alloc ?_ _ | refine LB.set_ ?_ _ _ _ (by omega))), hat.left hkl (by omega)⟩
        case measure => simp [intOf]; omega
    · obtain rfl : k = xs.length := by omega
      go_wp2_with (go_at_call 86; refine add_fin ha hb hl hs hat hL hbl hq ?_; rintro e w1 ⟨R, cc, rfl, hr1, hr2⟩)
      go_ret
      exact ⟨R, cc, rfl, hr1, hr2⟩

set_option maxHeartbeats 1000000 in
theorem add_gt (A B : Option Addr) (c d : Nat) (xs ys : List Nat) (w : World) (ha : Mg w A c xs) (hb : Mg w B d ys) (hll : xs.length < ys.length) (hs : ys.length ≤ 1073741824) :
    Calls Tryd.prog 52 #[.slice A xs.length c, .slice B ys.length d] w (RetN w (val ys + val xs)) := by
  have hl : xs.length ≤ ys.length := by omega
  have hlt : (xs.length : Int) < (ys.length : Int) := by omega
  have hmk := make32 (ys.length + 1) (by omega)
  rw [show ((ys.length + 1 : Nat) : Int) = (ys.length : Int) + 1 from by omega] at hmk
  go_enter Tryd.func52, Tryd.ntmps52
  go_wp2
  go_loopw [6, 23] (fun cr i wr => ∃ (k q : Nat) (L : List Nat), k ≤ ys.length ∧ i = .int .i64 k ∧ cr = .int .u32 q ∧ q ≤ 1 ∧ Below w.heap.size w wr ∧ LB wr w.heap.size L ∧ AddAt ys xs k q L) (fun _ i _ => ys.length - (intOf i).toNat)
  case atStart => exact ⟨0, 0, _, Nat.zero_le _, rfl, rfl, by omega, (Below.refl _ _).alloc (Nat.le_refl _) _, LB.made w (ys.length + 1), .start _ _⟩
  case round =>
    obtain ⟨k, q, L, hk, rfl, rfl, hq, hbl, hL, hat⟩ := hrel
    have hgl := hL.lt
    have hlen := hat.len (by omega)
    have hkL : k < L.length := by omega
    have HL := hid hlen
    clear hlen
    have cell0 := hL.cell k hkL
    have free0 := hL.free k
    have hwz := hbl.size
    by_cases hkl : k < ys.length
    · obtain ⟨ba, oa, rfl, hba, hca⟩ := hb.rd.at_ hkl
      have c1 := (hbl.cell (p := ⟨ba, oa + k, none⟩) hba).trans (hca k hkl)
      have o1 := hb.ok.get hkl
      have hba2 : ba < wr.heap.size := by omega
      unfold lim at c1
      clear hca
      by_cases hky : k < xs.length
      · obtain ⟨bb, ob, rfl, hbb, hcb⟩ := ha.rd.at_ hky
        have c2 := (hbl.cell (p := ⟨bb, ob + k, none⟩) hbb).trans (hcb k hky)
        have o2 := ha.ok.get hky
        have hbb2 : bb < wr.heap.size := by omega
        unfold lim at c2
        clear hcb
        go_wp2_with (go_at_call 88; refine (split_any _ _ (by omega) (by omega)).mono ?_; rintro e w1 ⟨rfl, hb1⟩; obtain ⟨hc1, hf1⟩ := bcell hb1; have hgl1 := Nat.lt_of_lt_of_le hgl hb1.size)
        go_region
        go_wp2
        go_roundw
        case rel => exact ⟨k + 1, (ys[k] + q + xs[k]) / 4294967296, L.set k ((ys[k] + q + xs[k]) % 4294967296), by omega, by go_num, by go_num, by omega, (by repeat (first | exact hbl | exact hbl.trans (hb1.mono hwz) | refine Below.drew ?_ | refine below_drewN ?_ _ | refine Below.setCell ?_ (by exact Nat.le_refl _) _ | refine Below.alloc ?_ (by simp; omega) _)), (by repeat (first | exact hL | exact hL.below hb1 hgl | refine LB.drew ?_ | refine LB.drewN ?_ _ | refine LB.alloc ?_ _ | refine LB.set_ ?_ _ _ _ (by omega))), hat.both hkl hky⟩
        case measure => simp [intOf]; omega
      · go_wp2_with (go_at_call 88; refine (split_any _ _ (by omega) (by omega)).mono ?_; rintro e w1 ⟨rfl, hb1⟩; obtain ⟨hc1, hf1⟩ := bcell hb1; have hgl1 := Nat.lt_of_lt_of_le hgl hb1.size)
        go_region
        go_wp2
        go_roundw
        case rel => exact ⟨k + 1, (ys[k] + q) / 4294967296, L.set k ((ys[k] + q) % 4294967296), by omega, by go_num, by go_num, by omega, (by repeat (first | exact hbl | exact hbl.trans (hb1.mono hwz) | refine Below.drew ?_ | refine below_drewN ?_ _ | refine Below.setCell ?_ (by exact Nat.le_refl _) _ | refine Below.alloc ?_ (by simp; omega) _)), (by repeat (first | exact hL | exact hL.below hb1 hgl | refine LB.drew ?_ | refine LB.drewN ?_ _ | refine LB.alloc ?_ _ | refine LB.set_ ?_ _ _ _ (by omega))), hat.left hkl (by omega)⟩
        case measure => simp [intOf]; omega
    · obtain rfl : k = ys.length := by omega
      go_wp2_with (go_at_call 86; refine add_fin hb ha hl hs hat hL hbl hq ?_; rintro e w1 ⟨R, cc, rfl, hr1, hr2⟩)
      go_ret
      exact ⟨R, cc, rfl, hr1, hr2⟩

theorem add_any (A B : Option Addr) (c d : Nat) (xs ys : List Nat) (w : World) (ha : Mg w A c xs) (hb : Mg w B d ys) (hs : xs.length ≤ 1073741824) (ht : ys.length ≤ 1073741824) :
    Calls Tryd.prog 52 #[.slice A xs.length c, .slice B ys.length d] w (RetN w (val xs + val ys)) := by
  by_cases h : ys.length ≤ xs.length
  · exact add_le A B c d xs ys w ha hb h hs
  · rw [Nat.add_comm]
    exact add_gt A B c d xs ys w ha hb (by omega) ht

end Go.Proofs.YtkfpcohdbbhmaaaDoor
