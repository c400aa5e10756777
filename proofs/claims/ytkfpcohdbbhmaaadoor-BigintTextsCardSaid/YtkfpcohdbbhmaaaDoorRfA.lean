/- The reference: walks of Valid, limb. Conditions: none. -/
import Derived.Test.YtkfpcohdbbhmaaaDoorG
import Derived.Test.YtkfpcohdbbhmaaaDoorNtA
namespace Go.Proofs.YtkfpcohdbbhmaaaDoor
set_option linter.unusedVariables false
set_option linter.unusedSimpArgs false
open Go.RowKit Big

set_option maxHeartbeats 400000 in
theorem RValid_any (neg : Bool) (A : Option Addr) (c : Nat) (xs : List Nat) (w : World) (ha : Mg w A c xs) :
    Calls Tryd.prog 33 #[.agg #[.bool neg, .slice A xs.length c]] w fun e w' => e = .returned (.bool (validB neg xs)) ∧ Below w.heap.size w w' := by
  by_cases h0 : xs = []
  · subst h0
    have hv : validB neg [] = !neg := by simp [validB]
    rw [hv]
    clear ha hv
    go_enter Tryd.func33, Tryd.ntmps33
    go_wp2
    go_ret
    exact ⟨by simp, (Below.refl _ _).alloc (Nat.le_refl _) _⟩
  · have hl0 : 0 < xs.length := List.length_pos_iff.2 h0
    have hl1 : ((xs.length : Int) == 0) = false := by rw [beq_eq_false_iff_ne]; omega
    have hv : validB neg xs = (decide (xs.length ≤ 512) && decide (xs.getLast? ≠ some 0)) := by unfold validB; rw [if_neg h0]
    have hm := ha.max
    have hm2 := ha.cap
    by_cases h5 : xs.length ≤ 512
    · obtain ⟨b, o, rfl, hB, hc⟩ := ha.rd.at_ (k := xs.length - 1) (by omega)
      have c1 := hc (xs.length - 1) (by omega)
      unfold lim at c1
      have hlast : xs.getLast? = some xs[xs.length - 1] := by rw [List.getLast?_eq_getElem?, List.getElem?_eq_getElem (by omega)]
      rw [hlast] at hv
      generalize xs[xs.length - 1] = t at *
      by_cases ht : t = 0
      · have hv2 : validB neg xs = false := by rw [hv]; simp [ht]
        rw [hv2]
        subst ht
        clear hc hlast hv hv2 h0 ha
        go_enter Tryd.func33, Tryd.ntmps33
        go_wp2
        go_ret
        exact ⟨rfl, (Below.refl _ _).alloc (Nat.le_refl _) _⟩
      · have hv2 : validB neg xs = true := by rw [hv]; simp [ht, h5]
        have ht1 : ((t : Int) != 0) = true := by rw [bne_iff_ne]; omega
        rw [hv2]
        clear hc hlast hv hv2 h0 ha ht
        go_enter Tryd.func33, Tryd.ntmps33
        go_wp2
        go_ret
        exact ⟨rfl, (Below.refl _ _).alloc (Nat.le_refl _) _⟩
    · have hv2 : validB neg xs = false := by rw [hv]; simp [h5]
      rw [hv2]
      clear hv hv2 h0 ha
      go_enter Tryd.func33, Tryd.ntmps33
      go_wp2
      go_ret
      exact ⟨rfl, (Below.refl _ _).alloc (Nat.le_refl _) _⟩

theorem RValid_t {z : Int} {A : Option Addr} {c : Nat} {w : World} (ha : Mg w A c (limbs z.natAbs)) (h : fits z) :
    Calls Tryd.prog 33 #[.agg #[.bool (decide ((z) < 0)), .slice A (limbs (Int.natAbs (z))).length c]] w fun e w' => e = .returned (.bool true) ∧ Below w.heap.size w w' :=
  (RValid_any _ A c _ w ha).mono fun e w' ⟨h1, h2⟩ => ⟨by rw [h1, validB_z h], h2⟩
theorem RValid_f {neg : Bool} {A : Option Addr} {c : Nat} {xs : List Nat} {w : World} (ha : Mg w A c xs) (h : validB neg xs = false) :
    Calls Tryd.prog 33 #[.agg #[.bool neg, .slice A xs.length c]] w fun e w' => e = .returned (.bool false) ∧ Below w.heap.size w w' :=
  (RValid_any _ A c _ w ha).mono fun e w' ⟨h1, h2⟩ => ⟨by rw [h1, h], h2⟩


/-- limb(m, i): the limb at i, 0 beyond the end -/
theorem Rlimb_any (A : Option Addr) (c : Nat) (xs : List Nat) (w : World) (ha : Mg w A c xs) (i : Nat) (hi : i ≤ 1099511627776) :
    Calls Tryd.prog 79 #[.slice A xs.length c, .int .i64 i] w fun e w' => e = .returned (.int .u64 ((xs[i]?.getD 0 : Nat) : Int)) ∧ w = w' := by
  have hm := ha.max
  have hm2 := ha.cap
  by_cases h : i < xs.length
  · obtain ⟨b, o, rfl, hB, hc⟩ := ha.rd.at_ h
    have c1 := hc i h
    unfold lim at c1
    have hx := ha.ok xs[i] (List.getElem_mem h)
    have e : xs[i]?.getD 0 = xs[i] := by simp [List.getElem?_eq_getElem h]
    rw [e]
    have h1 : (i : Int) < (xs.length : Int) := by omega
    clear hc ha e
    generalize xs[i] = t at *
    go_enter Tryd.func79, Tryd.ntmps79
    go_wp2
    go_ret
    exact ⟨rfl, rfl⟩
  · have e : xs[i]?.getD 0 = 0 := by simp [List.getElem?_eq_none (show xs.length ≤ i by omega)]
    rw [e]
    have h1 : ¬ (i : Int) < (xs.length : Int) := by omega
    clear ha e
    go_enter Tryd.func79, Tryd.ntmps79
    go_wp2
    go_ret
    exact ⟨rfl, rfl⟩
end Go.Proofs.YtkfpcohdbbhmaaaDoor

/- The reference: walks of Trim, signed, limit. Conditions: none. -/
namespace Go.Proofs.YtkfpcohdbbhmaaaDoor
set_option linter.unusedVariables false
set_option linter.unusedSimpArgs false
open Go.RowKit Big

theorem own_lit (w : World) (e : TypeId) : (w.alloc (.cells #[] e)).ownsRow w.heap.size e 1 (.slice (some ⟨w.heap.size, 0, none⟩) 0 0) 0 [] :=
  ⟨rfl, .inr ⟨w.heap.size, 0, #[], rfl, Nat.le_refl _, by rw [heap_alloc_new], Nat.le_refl _, by unfold maxLen; omega, rfl, rfl⟩⟩

theorem RetZE.alloc {w w' : World} {z err : Int} {e : Ending} (h : RetZE w z err e w') (o : Obj) : RetZE w z err e (w'.alloc o) := by
  obtain ⟨A, c, h1, h2, h3⟩ := h
  exact ⟨A, c, h1, h2.alloc, h3.alloc h3.size _⟩
theorem RetZ.alloc {w w' : World} {z : Int} {e : Ending} (h : RetZ w z e w') (o : Obj) : RetZ w z e (w'.alloc o) := by
  obtain ⟨A, c, h1, h2, h3⟩ := h
  exact ⟨A, c, h1, h2.alloc, h3.alloc h3.size _⟩
/-- both fields of a box that has just been written, a block behind it -/
theorem box_set {W : World} {g : Nat} {o : Obj} {u0 u1 : Value} (k0 : W.cell? ⟨g, 0, none⟩ = some (.bool false)) (k1 : W.cell? ⟨g, 1, none⟩ = some (.slice none 0 0)) :
    (((W.setCell ⟨g, 0, none⟩ u0).setCell ⟨g, 1, none⟩ u1).alloc o).cell? ⟨g, 0, none⟩ = some u0 ∧ (((W.setCell ⟨g, 0, none⟩ u0).setCell ⟨g, 1, none⟩ u1).alloc o).cell? ⟨g, 1, none⟩ = some u1 :=
  ⟨keep_alloc (keep_off (by omega) (at_setB k0)), keep_alloc (at_setS (keep_off (by omega) k1))⟩

/-- limbs in new memory -/
def RetNF (w : World) (n : Nat) (e : Ending) (w' : World) : Prop :=
  ∃ A c, e = .returned (.slice A (limbs n).length c) ∧ Mg w' A c (limbs n) ∧ Below w.heap.size w w' ∧ Hid (∀ p, A = some p → w.heap.size ≤ p.block)
theorem RetNF.any {w w' : World} {n : Nat} {e : Ending} (h : RetNF w n e w') : RetN w n e w' := by
  obtain ⟨A, c, h1, h2, h3, _⟩ := h; exact ⟨A, c, h1, h2, h3⟩
theorem own_fresh {w : World} {base : Nat} {t : TypeId} {A : Option Addr} {n c m : Nat} {xs : List Value} (h : w.ownsRow base t 1 (.slice A n c) m xs) : ∀ p, A = some p → base ≤ p.block := by
  intro p hp
  subst hp
  rcases h.2 with ⟨h1, _⟩ | ⟨g, cap, cur, h1, hbg, _⟩
  · cases h1
  · injection h1 with h1
    injection h1 with h1
    subst h1
    exact hbg

/-- a copy of the first k limbs -/
theorem fin_copy {w w' : World} {A : Option Addr} {c : Nat} {xs : List Nat} {v' : Value} (h : Mg w A c xs) (k : Nat) (hk : k ≤ xs.length) (hz : ∀ i, k ≤ i → (hi : i < xs.length) → xs[i] = 0) (hl : k = 0 ∨ ∃ h : k - 1 < xs.length, xs[k - 1] ≠ 0)
    (hown : w'.ownsRow w.heap.size 57 1 v' (xs.take k).length ((xs.take k).map lim)) (hb : Below w.heap.size w w') : RetNF w (val xs) (.returned v') w' := by
  have e := limbs_trim h.ok k hk hz hl
  obtain ⟨A', c', rfl, h1, h2, h3⟩ := own_rd hown
  have hf := own_fresh hown
  rw [e] at h1 h3 ⊢
  exact ⟨A', c', rfl, ⟨h1, h2, ok_limbs _, h3⟩, hb, hf⟩

set_option maxHeartbeats 400000 in
theorem RTrim_fr (A : Option Addr) (c : Nat) (xs : List Nat) (w : World) (h : Mg w A c xs) (hs : xs.length ≤ 1073741824) :
    Calls Tryd.prog 90 #[.slice A xs.length c] w (RetNF w (val xs)) := by
  have hcap := h.cap
  have hmax := h.max
  go_enter Tryd.func90, Tryd.ntmps90
  go_wp2
  go_loop [3] (fun i => ∃ k : Nat, k ≤ xs.length ∧ i = .int .i64 k ∧ Hid (∀ i, k ≤ i → (hi : i < xs.length) → xs[i] = 0)) (fun i => (intOf i).toNat)
  case atStart => exact ⟨xs.length, Nat.le_refl _, rfl, fun i h1 h2 => absurd h1 (by omega)⟩
  case round =>
    obtain ⟨k, hk, rfl, hz⟩ := hrel
    by_cases h0 : 0 < k
    · have hk1 : k - 1 < xs.length := by omega
      obtain ⟨b, o, rfl, hb, hc⟩ := h.rd.at_ hk1
      have c1 := hc (k - 1) hk1
      unfold lim at c1
      clear hc
      by_cases he : xs[k - 1] = 0
      · have he1 : ((xs[k - 1] : Int) == 0) = true := by simp [he]
        have HE := hid he
        clear he
        go_wp2
        go_round
        case rel => exact ⟨k - 1, by omega, by go_num, fun i h1 h2 => by
          by_cases hj : i = k - 1
          · subst hj; exact HE.out
          · exact hz.out i (by omega) h2⟩
        case measure => simp [intOf]; omega
      · have he1 : ((xs[k - 1] : Int) == 0) = false := by simp; omega
        have HE := hid he
        clear he
        have hr := (h.rd.take k).below ((Below.refl w.heap.size w).alloc (Nat.le_refl _) (.cells #[] 57))
        go_wp2_with (at_builtin; refine wpList_app rfl (.tmp 18) (.tmp 21) 22 rfl 57 (.int .u32 0) 4 Tryd.underlying22 info32 rfl w.heap.size lim (fun _ => rfl) _ [] rfl (own_lit w _) _ c (xs.take k) (by rw [List.length_take, Nat.min_eq_left hk]; rfl) hr (by simp; omega) (by simp; omega) (by simp) ?_; intro v' w2 hown hgr hwh)
        go_ret
        exact fin_copy h k hk hz.out (.inr ⟨hk1, HE.out⟩) hown (((Below.refl _ _).alloc (Nat.le_refl _) _).trans (below_app (own_lit w _) hgr (by simp)))
    · have hk0 : k = 0 := by omega
      subst hk0
      have hr := (Rd.nil (f := lim) (w.alloc (.cells #[] 57)) A)
      go_wp2_with (at_builtin; refine wpList_app rfl (.tmp 18) (.tmp 21) 22 rfl 57 (.int .u32 0) 4 Tryd.underlying22 info32 rfl w.heap.size lim (fun _ => rfl) _ [] rfl (own_lit w _) _ c [] rfl hr (by simp) (by simp) (by simp) ?_; intro v' w2 hown hgr hwh)
      go_ret
      exact fin_copy h 0 hk hz.out (.inl rfl) hown (((Below.refl _ _).alloc (Nat.le_refl _) _).trans (below_app (own_lit w _) hgr (by simp)))

theorem RTrim_any (A : Option Addr) (c : Nat) (xs : List Nat) (w : World) (h : Mg w A c xs) (hs : xs.length ≤ 1073741824) :
    Calls Tryd.prog 90 #[.slice A xs.length c] w (RetN w (val xs)) := (RTrim_fr A c xs w h hs).mono fun _ _ h => h.any

set_option maxHeartbeats 400000 in
theorem Rsigned_any (neg : Bool) (A : Option Addr) (c : Nat) (xs : List Nat) (w : World) (ha : Mg w A c xs) (hs : xs.length ≤ 1073741824) :
    Calls Tryd.prog 56 #[.bool neg, .slice A xs.length c] w (RetZ w (sg neg (val xs))) := by
  have HT := hid fun (w1 : World) (h : Below w.heap.size w w1) => RTrim_any A c xs w1 (ha.below h) hs
  clear ha hs
  generalize val xs = n at *
  generalize xs.length = lx at *
  go_enter Tryd.func56, Tryd.ntmps56
  go_wp2_with fail
  refine (HT.out _ (by repeat (first | assumption | exact Below.refl _ _ | refine Below.alloc ?_ (by simp; try omega) _ | refine Below.drew ?_ | refine below_drewN ?_ _))).mono ?_
  rintro e w1 ⟨R, cc, rfl, hr, h1⟩
  obtain ⟨p1, p2, p3⟩ := box_keep h1
  have b1 : Below w.heap.size w w1 := Below.trans (b := _) (by repeat (first | assumption | exact Below.refl _ _ | refine Below.alloc ?_ (by simp; try omega) _ | refine Below.drew ?_ | refine below_drewN ?_ _)) (h1.mono (by simp))
  have k0 := p1 0
  have k1 := p1 1
  simp at k0 k1
  by_cases h0 : n = 0
  · subst h0
    rw [limbs_zero] at *
    simp only [List.length_nil]
    cases neg
    all_goals
      go_wp2
      refine bodyPost_ret (v := .agg #[.bool false, .slice R 0 cc]) ?_ rfl ?_
      · simp [results, Tryd.results56, go_sem, k0, k1]
      · rw [sg_zero]
        exact ⟨R, cc, by simp [limbs_zero], by simpa [limbs_zero] using (Mg.setS (by rw [cell_set_ne (by omega)]; exact k1) (Mg.setB k0 hr)), below_set (below_set b1 (by omega) _ _) (by omega) _ _⟩
  · have hl : 0 < (limbs n).length := by rw [limbs_pos h0]; simp
    have hsn := hid (And.intro (sg_neg neg n h0) (natAbs_sg neg n))
    clear h0
    cases neg
    · go_wp2
      refine bodyPost_ret (v := .agg #[.bool false, .slice R (limbs n).length cc]) ?_ rfl ?_
      · simp [results, Tryd.results56, go_sem, k0, k1]
      · exact ⟨R, cc, by rw [hsn.out.1, hsn.out.2], by rw [hsn.out.2]; exact (Mg.setS (by rw [cell_set_ne (by omega)]; exact k1) (Mg.setB k0 hr)), below_set (below_set b1 (by omega) _ _) (by omega) _ _⟩
    · go_wp2
      refine bodyPost_ret (v := .agg #[.bool true, .slice R (limbs n).length cc]) ?_ rfl ?_
      · simp [results, Tryd.results56, go_sem, k0, k1]
      · exact ⟨R, cc, by rw [hsn.out.1, hsn.out.2], by rw [hsn.out.2]; exact (Mg.setS (by rw [cell_set_ne (by omega)]; exact k1) (Mg.setB k0 hr)), below_set (below_set b1 (by omega) _ _) (by omega) _ _⟩

set_option maxHeartbeats 400000 in
theorem Rlimit_any (neg : Bool) (A : Option Addr) (c : Nat) (xs : List Nat) (w : World) (ha : Mg w A c xs) (hs : xs.length ≤ 1073741824) :
    Calls Tryd.prog 75 #[.bool neg, .slice A xs.length c] w (RetF w (sg neg (val xs))) := by
  have HT := hid fun (w1 : World) (h : Below w.heap.size w w1) => Rsigned_any neg A c xs w1 (ha.below h) hs
  clear ha hs
  generalize sg neg (val xs) = z at *
  generalize xs.length = lx at *
  by_cases hf : fits z
  · have hR : RetF w z = RetZE w z 0 := by unfold RetF; rw [fitE_yes hf]
    rw [hR]
    have hl : (limbs z.natAbs).length ≤ 512 := hf
    clear hR hf
    go_enter Tryd.func75, Tryd.ntmps75
    go_wp2_with fail
    refine (HT.out _ (by repeat (first | assumption | exact Below.refl _ _ | refine Below.alloc ?_ (by simp; try omega) _ | refine Below.drew ?_ | refine below_drewN ?_ _))).mono ?_
    rintro e w1 ⟨R, cc, rfl, hr, h1⟩
    obtain ⟨p1, p2, p3⟩ := box_keep h1
    have b1 : Below w.heap.size w w1 := Below.trans (b := _) (by repeat (first | assumption | exact Below.refl _ _ | refine Below.alloc ?_ (by simp; try omega) _ | refine Below.drew ?_ | refine below_drewN ?_ _)) (h1.mono (by simp))
    have k0 := p1 0
    have k1 := p1 1
    simp at k0 k1
    go_wp2
    refine bodyPost_ret (v := .tuple #[.agg #[.bool (decide ((z) < 0)), .slice R (limbs (Int.natAbs (z))).length cc], .int .i64 0]) ?_ rfl ?_
    · simp [results, Tryd.results75, go_sem, box_set k0 k1]
    · exact (fin_ze hr b1 (Nat.le_refl _) k0 k1 _ _).alloc _
  · have hR : RetF w z = RetZE w 0 4 := by unfold RetF; rw [fitE_no hf]
    rw [hR]
    have hl : 512 < (limbs z.natAbs).length := by unfold fits at hf; omega
    clear hR hf
    go_enter Tryd.func75, Tryd.ntmps75
    go_wp2_with fail
    refine (HT.out _ (by repeat (first | assumption | exact Below.refl _ _ | refine Below.alloc ?_ (by simp; try omega) _ | refine Below.drew ?_ | refine below_drewN ?_ _))).mono ?_
    rintro e w1 ⟨R, cc, rfl, hr, h1⟩
    obtain ⟨p1, p2, p3⟩ := box_keep h1
    have b1 : Below w.heap.size w w1 := Below.trans (b := _) (by repeat (first | assumption | exact Below.refl _ _ | refine Below.alloc ?_ (by simp; try omega) _ | refine Below.drew ?_ | refine below_drewN ?_ _)) (h1.mono (by simp))
    have k0 := p1 0
    have k1 := p1 1
    simp at k0 k1
    go_wp2
    refine bodyPost_ret (v := .tuple #[.agg #[.bool false, .slice none 0 0], .int .i64 4]) ?_ rfl ?_
    · simp [results, Tryd.results75, go_sem, box_set k0 k1]
    · exact (retZE_zero 4 (below_set (below_set b1 (Nat.le_refl _) _ _) (Nat.le_refl _) _ _)).alloc _

end Go.Proofs.YtkfpcohdbbhmaaaDoor

/- The reference: walks of order, plus, minus. Conditions: none. -/
namespace Go.Proofs.YtkfpcohdbbhmaaaDoor
set_option linter.unusedVariables false
set_option linter.unusedSimpArgs false
open Go.RowKit Big

theorem val_cut {xs : List Nat} (ho : Ok xs) (j : Nat) : ∃ l, l < 4294967296 ^ j ∧ val xs = l + 4294967296 ^ j * val (xs.drop j) := by
  rcases Nat.le_total j xs.length with h | h
  · refine ⟨val (xs.take j), ?_, val_split xs j h⟩
    have := val_lt_pow (ho.take j)
    rwa [List.length_take, Nat.min_eq_left h] at this
  · refine ⟨val xs, Nat.lt_of_lt_of_le (val_lt_pow ho) (Nat.pow_le_pow_right (by decide) h), by rw [val_out xs h]; rfl⟩
theorem ord_at {xs ys : List Nat} (hx : Ok xs) {j : Nat} (h : val (xs.drop (j + 1)) = val (ys.drop (j + 1))) (hlt : lb xs j < lb ys j) (hy : Ok ys) : val xs < val ys := by
  obtain ⟨l, h1, h2⟩ := val_cut hx j
  obtain ⟨m, h3, h4⟩ := val_cut hy j
  rw [h2, h4, val_drop xs j, val_drop ys j, h]
  generalize 4294967296 ^ j = P at *
  have h5 : P * (lb xs j + 1 + 4294967296 * val (ys.drop (j + 1))) ≤ P * (lb ys j + 4294967296 * val (ys.drop (j + 1))) := Nat.mul_le_mul_left _ (by omega)
  generalize val (ys.drop (j + 1)) = r at *
  simp only [Nat.mul_add, Nat.mul_one] at *
  omega

set_option maxHeartbeats 1000000 in
theorem Rorder_any (A B : Option Addr) (c d : Nat) (xs ys : List Nat) (w : World) (ha : Mg w A c xs) (hb : Mg w B d ys) (hs : xs.length ≤ 1073741824) (ht : ys.length ≤ 1073741824) :
    Calls Tryd.prog 61 #[.slice A xs.length c, .slice B ys.length d] w fun e w' => e = .returned (.int .i64 (ord (val xs) (val ys))) ∧ w = w' := by
  have HX := hid fun (i : Nat) (hi : i ≤ 1099511627776) => Rlimb_any A c xs w ha i hi
  have HY := hid fun (i : Nat) (hi : i ≤ 1099511627776) => Rlimb_any B d ys w hb i hi
  have OX := hid ha.ok
  have OY := hid hb.ok
  clear ha hb
  change Hid (∀ (i : Nat), i ≤ 1099511627776 → Calls _ _ _ w fun e w' => e = .returned (.int .u64 ((lb xs i : Nat) : Int)) ∧ w = w') at HX
  change Hid (∀ (i : Nat), i ≤ 1099511627776 → Calls _ _ _ w fun e w' => e = .returned (.int .u64 ((lb ys i : Nat) : Int)) ∧ w = w') at HY
  go_enter Tryd.func61, Tryd.ntmps61
  go_wp2
  go_loop [6] (fun i => ∃ k : Nat, k ≤ max xs.length ys.length ∧ i = .int .i64 ((k : Int) - 1) ∧ Hid (val (xs.drop k) = val (ys.drop k))) (fun i => (intOf i + 1).toNat)
  case atStart => exact ⟨max xs.length ys.length, Nat.le_refl _, by congr 1; omega, by unfold Hid; rw [val_out xs (by omega), val_out ys (by omega)]⟩
  case round =>
    obtain ⟨k, hk, rfl, he⟩ := hrel
    by_cases h0 : 0 < k
    · obtain ⟨j, rfl⟩ : ∃ j, k = j + 1 := ⟨k - 1, by omega⟩
      have e1 : ((j + 1 : Nat) : Int) - 1 = (j : Int) := by omega
      rw [e1]
      have hx := lb_lt OX.out j
      have hy := lb_lt OY.out j
      have HR := hid (fun h => ord_lt (ord_at OX.out he.out h OY.out))
      have HG := hid (fun h => ord_gt (ord_at OY.out he.out.symm h OX.out))
      have HE := hid (fun h : lb xs j = lb ys j => (show val (xs.drop j) = val (ys.drop j) by rw [val_drop xs j, val_drop ys j, h, he.out]))
      have HX1 := hid (HX.out j (by omega))
      have HY1 := hid (HY.out j (by omega))
      clear HX HY
      generalize lb xs j = x at *
      generalize lb ys j = y at *
      rcases Nat.lt_trichotomy x y with h | h | h
      · go_wp2_with fail
        refine HX1.out.mono ?_
        rintro e w1 ⟨rfl, rfl⟩
        go_wp2_with fail
        refine HY1.out.mono ?_
        rintro e w1 ⟨rfl, rfl⟩
        go_wp2_with fail
        go_ret
        exact ⟨by rw [HR.out h] <;> rfl, rfl⟩
      · have HH := hid (HE.out h)
        subst h
        go_wp2_with fail
        refine HX1.out.mono ?_
        rintro e w1 ⟨rfl, rfl⟩
        go_wp2_with fail
        refine HY1.out.mono ?_
        rintro e w1 ⟨rfl, rfl⟩
        go_wp2_with fail
        refine HX1.out.mono ?_
        rintro e w1 ⟨rfl, rfl⟩
        go_wp2_with fail
        refine HY1.out.mono ?_
        rintro e w1 ⟨rfl, rfl⟩
        go_wp2_with fail
        go_round
        case rel => exact ⟨j, by omega, by first | rfl | go_num, HH⟩
        case measure => simp [intOf] <;> omega
      · go_wp2_with fail
        refine HX1.out.mono ?_
        rintro e w1 ⟨rfl, rfl⟩
        go_wp2_with fail
        refine HY1.out.mono ?_
        rintro e w1 ⟨rfl, rfl⟩
        go_wp2_with fail
        refine HX1.out.mono ?_
        rintro e w1 ⟨rfl, rfl⟩
        go_wp2_with fail
        refine HY1.out.mono ?_
        rintro e w1 ⟨rfl, rfl⟩
        go_wp2_with fail
        go_ret
        exact ⟨by rw [HG.out h] <;> rfl, rfl⟩
    · obtain rfl : k = 0 := by omega
      have HH := hid he.out
      rw [List.drop_zero, List.drop_zero] at HH
      go_wp2_with fail
      go_ret
      exact ⟨by rw [HH.out, ord_eq] <;> rfl, rfl⟩


/-- behind one append of a new limb -/
theorem below_app1 {w wr w5 : World} {v : Value} {D : List Nat} {m : Nat} (hown : wr.ownsRow w.heap.size 57 1 v D.length (D.map lim)) (hbl : Below w.heap.size w wr)
    (hgr : (wr.alloc (.cells #[.int .u32 (m : Int)] 57)).grownBy w5 v.ownBlock) : Below w.heap.size w w5 :=
  (hbl.alloc hbl.size _).trans (below_app (own_below hown ((Below.refl _ _).alloc (Nat.le_refl _) (.cells #[.int .u32 (m : Int)] 57))) hgr (by have := hbl.size; simp; omega))

theorem own_trim {w wr : World} {v : Value} {D : List Nat} {n : Nat} (hown : wr.ownsRow w.heap.size 57 1 v D.length (D.map lim)) (hbl : Below w.heap.size w wr) (ho : Ok D) (hl : D.length ≤ 1073741824) (hv : val D = n) :
    Calls Tryd.prog 90 #[v] wr (RetNF w n) := by
  obtain ⟨A, c, rfl, h1, h2, h3⟩ := own_rd hown
  have h := RTrim_fr A c D wr ⟨h1, h2, ho, h3⟩ hl
  subst hv
  exact h.mono fun e w' ⟨A', c', g1, g2, g3, g4⟩ => ⟨A', c', g1, g2, hbl.trans (g3.mono hbl.size), fun p hp => Nat.le_trans hbl.size (g4.out p hp)⟩

set_option maxHeartbeats 1000000 in
theorem Rplus_fr (A B : Option Addr) (c d : Nat) (xs ys : List Nat) (w : World) (ha : Mg w A c xs) (hb : Mg w B d ys) (hs : xs.length ≤ 1048576) (ht : ys.length ≤ 1048576) :
    Calls Tryd.prog 57 #[.slice A xs.length c, .slice B ys.length d] w (RetNF w (val xs + val ys)) := by
  have HX := hid fun (w1 : World) (h : Below w.heap.size w w1) (i : Nat) (hi : i ≤ 1099511627776) => Rlimb_any A c xs w1 (ha.below h) i hi
  have HY := hid fun (w1 : World) (h : Below w.heap.size w w1) (i : Nat) (hi : i ≤ 1099511627776) => Rlimb_any B d ys w1 (hb.below h) i hi
  have OX := hid ha.ok
  have OY := hid hb.ok
  clear ha hb
  change Hid (∀ (w1 : World), Below w.heap.size w w1 → ∀ (i : Nat), i ≤ 1099511627776 → Calls _ _ _ w1 fun e w' => e = .returned (.int .u64 ((lb xs i : Nat) : Int)) ∧ w1 = w') at HX
  change Hid (∀ (w1 : World), Below w.heap.size w w1 → ∀ (i : Nat), i ≤ 1099511627776 → Calls _ _ _ w1 fun e w' => e = .returned (.int .u64 ((lb ys i : Nat) : Int)) ∧ w1 = w') at HY
  go_enter Tryd.func57, Tryd.ntmps57
  go_wp2
  go_loopw [5, 6, 7] (fun s5 s6 s7 wr => ∃ (k q : Nat) (v : Value) (D : List Nat), k ≤ max xs.length ys.length ∧ s7 = .int .i64 k ∧ s6 = .int .u64 q ∧ q ≤ 1 ∧ s5 = v ∧ wr.ownsRow w.heap.size 57 1 v D.length (D.map lim) ∧ Below w.heap.size w wr ∧ Hid (Cry (val xs + val ys) k q (val (xs.drop k) + val (ys.drop k)) D)) (fun _ _ s7 _ => max xs.length ys.length - (intOf s7).toNat)
  case atStart => exact ⟨0, 0, _, [], by omega, rfl, rfl, by omega, rfl, World.ownsRow_nil _ _ _ _, Below.refl _ _, by unfold Hid; have := Cry.start 0 (val xs + val ys); simpa using this⟩
  case round =>
    obtain ⟨k, q, v, D, hk, rfl, rfl, hq, rfl, hown, hbl, hc⟩ := hrel
    have hD := hc.out.len
    by_cases h0 : k < max xs.length ys.length
    · have hx := lb_lt OX.out k
      have hy := lb_lt OY.out k
      have HX1 := hid (HX.out wr hbl k (by omega))
      have HY1 := hid (HY.out wr hbl k (by omega))
      have HC := hid (fun s hs => hc.out.step (t := lb xs k + lb ys k) (R' := val (xs.drop (k + 1)) + val (ys.drop (k + 1))) (s := s) (by rw [val_drop xs k, val_drop ys k]; omega) hs)
      clear HX HY hc
      generalize lb xs k = x at *
      generalize lb ys k = y at *
      obtain ⟨m, hm⟩ : ∃ m, (x + y + q) % 4294967296 = m := ⟨_, rfl⟩
      obtain ⟨u, hu⟩ : ∃ u, (x + y + q) / 4294967296 = u := ⟨_, rfl⟩
      have hm1 : ((x : Int) + (y : Int) + (q : Int)) % 4294967296 = (m : Int) := by omega
      have hu1 : ((x : Int) + (y : Int) + (q : Int)) / 4294967296 = (u : Int) := by omega
      have hm2 : m < 4294967296 := by omega
      have hu2 : u ≤ 1 := by omega
      have HC2 := hid (HC.out _ rfl)
      rw [hm, hu] at HC2
      clear HC hm hu
      go_wp2_with fail
      refine HX1.out.mono ?_
      rintro e w1 ⟨rfl, rfl⟩
      go_wp2_with fail
      refine HY1.out.mono ?_
      rintro e w1 ⟨rfl, rfl⟩
      have hsz := hbl.size
      go_wp2_with (at_builtin; refine wpList_app rfl (.tmp 27) (.tmp 31) 22 rfl 57 (.int .u32 0) 4 Tryd.underlying22 info32 rfl w.heap.size lim (fun _ => rfl) _ D rfl (own_below hown ((Below.refl _ _).alloc (Nat.le_refl _) (.cells #[.int .u32 (m : Int)] 57))) _ 1 [m] rfl (rd_one lim _ m 57) (by simp; omega) (by simp; omega) (by simp; omega) ?_; intro v5 w5 hown5 hgr hwh)
      go_roundw
      case rel => exact ⟨k + 1, u, v5, D ++ [m], by omega, by go_num, by rw [hu1], hu2, rfl, hown5, below_app1 hown hbl hgr, HC2⟩
      case measure => simp [intOf]; omega
    · obtain rfl : k = max xs.length ys.length := by omega
      have hl := hc.out
      rw [val_out xs (by omega), val_out ys (by omega)] at hl
      have hv := hid hl.last
      have hok := hid (ok_snoc hl.ok (show q < 4294967296 by omega))
      clear HX HY hc hl
      have hsz := hbl.size
      go_wp2_with (first | (at_builtin; refine wpList_app rfl (.tmp 35) (.tmp 38) 22 rfl 57 (.int .u32 0) 4 Tryd.underlying22 info32 rfl w.heap.size lim (fun _ => rfl) _ D rfl (own_below hown ((Below.refl _ _).alloc (Nat.le_refl _) (.cells #[.int .u32 (q : Int)] 57))) _ 1 [q] rfl (rd_one lim _ q 57) (by simp; omega) (by simp; omega) (by simp; omega) ?_; intro v5 w5 hown5 hgr hwh; have hb5 := below_app1 hown hbl hgr) | (go_at_call 90; refine (own_trim hown5 hb5 hok.out (by simp; omega) hv.out).mono ?_; rintro e w6 ⟨R, cc, rfl, hr1, hr2⟩))
      go_ret
      exact ⟨R, cc, rfl, hr1, hr2⟩

set_option maxHeartbeats 1000000 in
theorem Rminus_fr (A B : Option Addr) (c d : Nat) (xs ys : List Nat) (w : World) (ha : Mg w A c xs) (hb : Mg w B d ys) (hs : xs.length ≤ 1048576) (hl : ys.length ≤ xs.length) (hle : val ys ≤ val xs) :
    Calls Tryd.prog 58 #[.slice A xs.length c, .slice B ys.length d] w (RetNF w (val xs - val ys)) := by
  have HX := hid fun (w1 : World) (h : Below w.heap.size w w1) (i : Nat) (hi : i ≤ 1099511627776) => Rlimb_any A c xs w1 (ha.below h) i hi
  have HY := hid fun (w1 : World) (h : Below w.heap.size w w1) (i : Nat) (hi : i ≤ 1099511627776) => Rlimb_any B d ys w1 (hb.below h) i hi
  have OX := hid ha.ok
  have OY := hid hb.ok
  have HLE := hid hle
  clear ha hb hle
  change Hid (∀ (w1 : World), Below w.heap.size w w1 → ∀ (i : Nat), i ≤ 1099511627776 → Calls _ _ _ w1 fun e w' => e = .returned (.int .u64 ((lb xs i : Nat) : Int)) ∧ w1 = w') at HX
  change Hid (∀ (w1 : World), Below w.heap.size w w1 → ∀ (i : Nat), i ≤ 1099511627776 → Calls _ _ _ w1 fun e w' => e = .returned (.int .u64 ((lb ys i : Nat) : Int)) ∧ w1 = w') at HY
  go_enter Tryd.func58, Tryd.ntmps58
  go_wp2
  go_loopw [5, 6, 7] (fun s5 s6 s7 wr => ∃ (k q : Nat) (v : Value) (D : List Nat), k ≤ xs.length ∧ s7 = .int .i64 k ∧ s6 = .int .u64 q ∧ q ≤ 1 ∧ s5 = v ∧ wr.ownsRow w.heap.size 57 1 v D.length (D.map lim) ∧ Below w.heap.size w wr ∧ Hid (Brw xs ys k q D)) (fun _ _ s7 _ => xs.length - (intOf s7).toNat)
  case atStart => exact ⟨0, 0, _, [], by omega, rfl, rfl, by omega, rfl, World.ownsRow_nil _ _ _ _, Below.refl _ _, Brw.start _ _⟩
  case round =>
    obtain ⟨k, q, v, D, hk, rfl, rfl, hq, rfl, hown, hbl, hc⟩ := hrel
    have hD := hc.out.len
    by_cases h0 : k < xs.length
    · have hx := lb_lt OX.out k
      have hy := lb_lt OY.out k
      have HX1 := hid (HX.out wr hbl k (by omega))
      have HY1 := hid (HY.out wr hbl k (by omega))
      have HC := hid (fun s hs => hc.out.step (s := s) hs hx)
      clear HX HY hc
      generalize lb xs k = x at *
      generalize lb ys k = y at *
      obtain ⟨S, hS⟩ : ∃ S : Nat, S + y + q = 4294967296 + x := ⟨4294967296 + x - y - q, by omega⟩
      have HC2 := hid (HC.out S hS)
      have hS1 : (4294967296 : Int) + (x : Int) - (y : Int) - (q : Int) = (S : Int) := by omega
      have hS2 : S < 8589934592 := by omega
      obtain ⟨m, hm⟩ : ∃ m, S % 4294967296 = m := ⟨_, rfl⟩
      obtain ⟨u, hu⟩ : ∃ u, S / 4294967296 = u := ⟨_, rfl⟩
      have hm1 : (S : Int) % 4294967296 = (m : Int) := by omega
      have hu1 : (S : Int) / 4294967296 = (u : Int) := by omega
      have hm2 : m < 4294967296 := by omega
      have hu2 : u ≤ 1 := by omega
      rw [hm, hu] at HC2
      clear HC hm hu hS
      go_wp2_with fail
      refine HX1.out.mono ?_
      rintro e w1 ⟨rfl, rfl⟩
      go_wp2_with fail
      refine HY1.out.mono ?_
      rintro e w1 ⟨rfl, rfl⟩
      have hsz := hbl.size
      go_wp2_with (at_builtin; refine wpList_app rfl (.tmp 25) (.tmp 29) 22 rfl 57 (.int .u32 0) 4 Tryd.underlying22 info32 rfl w.heap.size lim (fun _ => rfl) _ D rfl (own_below hown ((Below.refl _ _).alloc (Nat.le_refl _) (.cells #[.int .u32 (m : Int)] 57))) _ 1 [m] rfl (rd_one lim _ m 57) (by simp; omega) (by simp; omega) (by simp; omega) ?_; intro v5 w5 hown5 hgr hwh)
      go_roundw
      case rel => exact ⟨k + 1, 1 - u, v5, D ++ [m], by omega, by go_num, by first | (rw [hS1, hu1]; congr 1; omega) | (congr 1; omega), by omega, rfl, hown5, below_app1 hown hbl hgr, HC2⟩
      case measure => simp [intOf]; omega
    · obtain rfl : k = xs.length := by omega
      have hv := hid (hc.out.last (Nat.le_refl _) hl HLE.out)
      have hok := hid hc.out.ok
      clear HX HY hc
      have hsz := hbl.size
      go_wp2_with (go_at_call 90; refine (own_trim hown hbl hok.out (by omega) hv.out).mono ?_; rintro e w6 ⟨R, cc, rfl, hr1, hr2⟩)
      go_ret
      exact ⟨R, cc, rfl, hr1, hr2⟩
end Go.Proofs.YtkfpcohdbbhmaaaDoor
