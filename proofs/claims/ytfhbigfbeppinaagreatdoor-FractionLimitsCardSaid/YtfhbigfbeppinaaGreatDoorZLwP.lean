/- The law FractionLimits: walks of power and of the law. Conditions: none. -/
import Derived.Test.YtfhbigfbeppinaaGreatDoorZYS
import Derived.Test.YtfhbigfbeppinaaGreatDoorZNtU
set_option linter.unusedVariables false
set_option linter.unusedSimpArgs false
namespace Go.Proofs.YtfhbigfbeppinaaGreatDoor
open Go.RowKit Big

theorem fz_bp (n : Nat) : Fz ((bp n : Int), 1) false (n + 1) (List.replicate n 0 ++ [1]) 1 [1] :=
  ⟨by simp, by rw [Int.natAbs_natCast, limbs_bp], by simp, limbs_one.symm, rfl⟩
theorem fz_bpr (n : Nat) : Fz ((1 : Int), bp n) false 1 [1] (n + 1) (List.replicate n 0 ++ [1]) :=
  ⟨by simp, limbs_one.symm, rfl, (limbs_bp n).symm, by simp⟩
theorem Fz.inj {f : Int × Nat} {b b' : Bool} {k l k' l' : Nat} {xs ys us vs : List Nat} (h : Fz f b k xs l ys) (h' : Fz f b' k' us l' vs) : b = b' ∧ k = k' ∧ xs = us ∧ l = l' ∧ ys = vs := by
  obtain ⟨rfl, rfl, rfl, rfl, rfl⟩ := h
  obtain ⟨rfl, rfl, rfl, rfl, rfl⟩ := h'
  exact ⟨rfl, rfl, rfl, rfl, rfl⟩
theorem ok_bp (n : Nat) : Ok (List.replicate n 0 ++ [1]) := by
  intro x hx
  rcases List.mem_append.1 hx with h | h
  · have := (List.mem_replicate.1 h).2; omega
  · rw [List.mem_singleton] at h; omega
set_option maxRecDepth 100000 in
set_option maxHeartbeats 4000000 in
theorem Lpower_f {n : Nat} {w : World} (hn : n ≤ 4000) :
    Calls Tryz.prog 35 #[.int .i64 n, .bool false] w (GFV w false (n + 1) (List.replicate n 0 ++ [1]) 1 [1]) := by
  go_enter Tryz.func35, Tryz.ntmps35
  go_wp2_with fail
  refine enterF (P := fun u => Code.wp _ _ _ _ u) ?_
  intro u HB q0 q1 q2 q3 z1 hsz
  clear hsz
  have f_z1 := z1.fr
  have lt_q0 := cell_lt q0
  go_loopw [5, 6] (fun s5 s6 wr => ∃ (j : Nat) (v : Value), j ≤ n ∧ s6 = .int .i64 j ∧ s5 = v ∧ wr.ownsRow u.heap.size 47 1 v (List.replicate j 0).length ((List.replicate j 0).map lim) ∧ Below u.heap.size u wr) (fun _ s6 _ => n - (intOf s6).toNat)
  case atStart => exact ⟨0, _, by omega, rfl, rfl, World.ownsRow_nil _ _ _ _, Below.refl _ _⟩
  case round =>
    obtain ⟨j, v, hj, rfl, rfl, hown, hbl⟩ := hrel
    have hsz := hbl.size
    by_cases h0 : j < n
    · have t0 : (j : Int) < (n : Int) := by omega
      go_wp2_with (at_builtin; refine wpList_app rfl (.tmp 13) (.tmp 14) 22 rfl 47 (.int .u32 0) 4 Tryz.underlying22 info32 rfl u.heap.size lim (fun _ => rfl) _ (List.replicate j 0) rfl (own_below hown ((Below.refl _ _).alloc (Nat.le_refl _) (.cells #[.int .u32 (0 : Int)] 47))) _ 1 [0] rfl (rd_one lim _ 0 47) (by simp; omega) (by simp; omega) (by simp; omega) ?_; intro v5 w5 hown5 hgr hwh)
      go_roundw
      case rel => exact ⟨j + 1, v5, by omega, by go_num, rfl, by rw [List.replicate_succ']; exact hown5, below_app1 (m := 0) hown hbl hgr⟩
      case measure => simp [intOf]; omega
    · obtain rfl : j = n := by omega
      have t0 : ¬ (j : Int) < (j : Int) := by omega
      go_upto_region 7 with (at_builtin; refine wpList_app rfl (.tmp 16) (.tmp 17) 22 rfl 47 (.int .u32 0) 4 Tryz.underlying22 info32 rfl u.heap.size lim (fun _ => rfl) _ (List.replicate j 0) rfl (own_below hown ((Below.refl _ _).alloc (Nat.le_refl _) (.cells #[.int .u32 (1 : Int)] 47))) _ 1 [1] rfl (rd_one lim _ 1 47) (by simp; omega) (by simp; omega) (by simp; omega) ?_; intro v5 w5 hown5 hgr hwh)
      have hb5 := below_app1 (m := 1) hown hbl hgr
      obtain ⟨Ra, cr, rfl, hc1, hc2, hc3⟩ := own_rd (xs := List.replicate j 0 ++ [1]) hown5
      have m1 : Mg w5 Ra cr (List.replicate j 0 ++ [1]) := ⟨hc1, hc2, ok_bp j, hc3⟩
      have hlen : (List.replicate j 0 ++ [1]).length = j + 1 := by simp
      clear hown hown5 hgr hwh hc1 hc2 hc3 hbl t0 h0 hj hsz
      rw [hlen]
      generalize List.replicate j 0 ++ [1] = L at *
      have hv_ : Below u.heap.size u w5 := Below.trans (b := _) (by repeat (first | assumption | exact Below.refl _ _ | refine Below.alloc ?_ (by simp; try omega) _ | refine Below.drew ?_ | refine below_drewN ?_ _)) (hb5.mono (by simp; try omega))
      replace q0 := keep_cell hv_ q0
      replace q1 := keep_cell hv_ q1
      replace q2 := keep_cell hv_ q2
      replace q3 := keep_cell hv_ q3
      have lt_q0 := cell_lt q0
      have lt_q1 := cell_lt q1
      have lt_q2 := cell_lt q2
      have lt_q3 := cell_lt q3
      replace z1 := z1.below hv_
      replace f_z1 := z1.fr
      replace HB := HB.trans (hv_.mono HB.size)
      clear hv_
      go_upto_region 8 with fail
      have m2 := mg_one w5
      have hv_ : Below w5.heap.size w5 (w5.alloc (.cells #[.int .u32 1] 47)) := (Below.refl _ _).alloc (Nat.le_refl _) _
      have hs_ : (w5.alloc (.cells #[.int .u32 1] 47)).heap.size = w5.heap.size + 1 := by simp
      generalize w5.alloc (.cells #[.int .u32 1] 47) = u5 at *
      replace m1 := m1.below hv_
      replace q0 := keep_cell hv_ q0
      replace q1 := keep_cell hv_ q1
      replace q2 := keep_cell hv_ q2
      replace q3 := keep_cell hv_ q3
      replace z1 := z1.below hv_
      replace HB := HB.trans (hv_.mono HB.size)
      clear hv_
      have a0 := at_allocF0 (W := u5) (a := .bool false) (b := .slice Ra (j + 1) cr) (c := .bool false) (d := .slice (some ⟨w5.heap.size, 0, none⟩) 1 1) (t := 26) rfl
      have a1 := at_allocF1 (W := u5) (a := .bool false) (b := .slice Ra (j + 1) cr) (c := .bool false) (d := .slice (some ⟨w5.heap.size, 0, none⟩) 1 1) (t := 26) rfl
      have a2 := at_allocF2 (W := u5) (a := .bool false) (b := .slice Ra (j + 1) cr) (c := .bool false) (d := .slice (some ⟨w5.heap.size, 0, none⟩) 1 1) (t := 26) rfl
      have a3 := at_allocF3 (W := u5) (a := .bool false) (b := .slice Ra (j + 1) cr) (c := .bool false) (d := .slice (some ⟨w5.heap.size, 0, none⟩) 1 1) (t := 26) rfl
      have hv_ : Below u5.heap.size u5 (u5.alloc (.cells #[.bool false, .slice Ra (j + 1) cr, .bool false, .slice (some ⟨w5.heap.size, 0, none⟩) 1 1] 26)) := (Below.refl _ _).alloc (Nat.le_refl _) _
      generalize u5.alloc (.cells #[.bool false, .slice Ra (j + 1) cr, .bool false, .slice (some ⟨w5.heap.size, 0, none⟩) 1 1] 26) = u6 at *
      replace m1 := m1.below hv_
      replace m2 := m2.below hv_
      replace z1 := z1.below hv_
      replace q0 := keep_cell hv_ q0
      replace q1 := keep_cell hv_ q1
      replace q2 := keep_cell hv_ q2
      replace q3 := keep_cell hv_ q3
      replace HB := HB.trans (hv_.mono HB.size)
      clear hv_
      rw [hs_] at a0 a1 a2 a3
      have lt_a := cell_lt a0
      have f_z1 := z1.fr
      go_wp2
      refine bodyPost_ret (v := .agg #[.bool false, .slice Ra (j + 1) cr, .bool false, .slice (some ⟨w5.heap.size, 0, none⟩) 1 1]) ?_ rfl ?_
      · simp [results, Tryz.results35, go_sem, q0, q1, q2, q3]
      · obtain ⟨j1_, j2_, j3_⟩ := fin_fr m1 m2 HB (by omega) q0 q1 q2 q3 (.bool false) (.slice Ra (j + 1) cr) (.bool false) (.slice (some ⟨w5.heap.size, 0, none⟩) 1 1)
        exact ⟨_, _, _, _, rfl, j1_, j2_, j3_⟩
set_option maxRecDepth 100000 in
set_option maxHeartbeats 4000000 in
theorem Lpower_t {n : Nat} {w : World} (hn : n ≤ 4000) :
    Calls Tryz.prog 35 #[.int .i64 n, .bool true] w (GFV w false 1 [1] (n + 1) (List.replicate n 0 ++ [1])) := by
  go_enter Tryz.func35, Tryz.ntmps35
  go_wp2_with fail
  refine enterF (P := fun u => Code.wp _ _ _ _ u) ?_
  intro u HB q0 q1 q2 q3 z1 hsz
  clear hsz
  have f_z1 := z1.fr
  have lt_q0 := cell_lt q0
  go_loopw [5, 6] (fun s5 s6 wr => ∃ (j : Nat) (v : Value), j ≤ n ∧ s6 = .int .i64 j ∧ s5 = v ∧ wr.ownsRow u.heap.size 47 1 v (List.replicate j 0).length ((List.replicate j 0).map lim) ∧ Below u.heap.size u wr) (fun _ s6 _ => n - (intOf s6).toNat)
  case atStart => exact ⟨0, _, by omega, rfl, rfl, World.ownsRow_nil _ _ _ _, Below.refl _ _⟩
  case round =>
    obtain ⟨j, v, hj, rfl, rfl, hown, hbl⟩ := hrel
    have hsz := hbl.size
    by_cases h0 : j < n
    · have t0 : (j : Int) < (n : Int) := by omega
      go_wp2_with (at_builtin; refine wpList_app rfl (.tmp 13) (.tmp 14) 22 rfl 47 (.int .u32 0) 4 Tryz.underlying22 info32 rfl u.heap.size lim (fun _ => rfl) _ (List.replicate j 0) rfl (own_below hown ((Below.refl _ _).alloc (Nat.le_refl _) (.cells #[.int .u32 (0 : Int)] 47))) _ 1 [0] rfl (rd_one lim _ 0 47) (by simp; omega) (by simp; omega) (by simp; omega) ?_; intro v5 w5 hown5 hgr hwh)
      go_roundw
      case rel => exact ⟨j + 1, v5, by omega, by go_num, rfl, by rw [List.replicate_succ']; exact hown5, below_app1 (m := 0) hown hbl hgr⟩
      case measure => simp [intOf]; omega
    · obtain rfl : j = n := by omega
      have t0 : ¬ (j : Int) < (j : Int) := by omega
      go_upto_region 7 with (at_builtin; refine wpList_app rfl (.tmp 16) (.tmp 17) 22 rfl 47 (.int .u32 0) 4 Tryz.underlying22 info32 rfl u.heap.size lim (fun _ => rfl) _ (List.replicate j 0) rfl (own_below hown ((Below.refl _ _).alloc (Nat.le_refl _) (.cells #[.int .u32 (1 : Int)] 47))) _ 1 [1] rfl (rd_one lim _ 1 47) (by simp; omega) (by simp; omega) (by simp; omega) ?_; intro v5 w5 hown5 hgr hwh)
      have hb5 := below_app1 (m := 1) hown hbl hgr
      obtain ⟨Ra, cr, rfl, hc1, hc2, hc3⟩ := own_rd (xs := List.replicate j 0 ++ [1]) hown5
      have m1 : Mg w5 Ra cr (List.replicate j 0 ++ [1]) := ⟨hc1, hc2, ok_bp j, hc3⟩
      have hlen : (List.replicate j 0 ++ [1]).length = j + 1 := by simp
      clear hown hown5 hgr hwh hc1 hc2 hc3 hbl t0 h0 hj hsz
      rw [hlen]
      generalize List.replicate j 0 ++ [1] = L at *
      have hv_ : Below u.heap.size u w5 := Below.trans (b := _) (by repeat (first | assumption | exact Below.refl _ _ | refine Below.alloc ?_ (by simp; try omega) _ | refine Below.drew ?_ | refine below_drewN ?_ _)) (hb5.mono (by simp; try omega))
      replace q0 := keep_cell hv_ q0
      replace q1 := keep_cell hv_ q1
      replace q2 := keep_cell hv_ q2
      replace q3 := keep_cell hv_ q3
      have lt_q0 := cell_lt q0
      have lt_q1 := cell_lt q1
      have lt_q2 := cell_lt q2
      have lt_q3 := cell_lt q3
      replace z1 := z1.below hv_
      replace f_z1 := z1.fr
      replace HB := HB.trans (hv_.mono HB.size)
      clear hv_
      go_upto_region 8 with fail
      have m2 := mg_one w5
      have hv_ : Below w5.heap.size w5 (w5.alloc (.cells #[.int .u32 1] 47)) := (Below.refl _ _).alloc (Nat.le_refl _) _
      have hs_ : (w5.alloc (.cells #[.int .u32 1] 47)).heap.size = w5.heap.size + 1 := by simp
      generalize w5.alloc (.cells #[.int .u32 1] 47) = u5 at *
      replace m1 := m1.below hv_
      replace q0 := keep_cell hv_ q0
      replace q1 := keep_cell hv_ q1
      replace q2 := keep_cell hv_ q2
      replace q3 := keep_cell hv_ q3
      replace z1 := z1.below hv_
      replace HB := HB.trans (hv_.mono HB.size)
      clear hv_
      have a0 := at_allocF0 (W := u5) (a := .bool false) (b := .slice Ra (j + 1) cr) (c := .bool false) (d := .slice (some ⟨w5.heap.size, 0, none⟩) 1 1) (t := 26) rfl
      have a1 := at_allocF1 (W := u5) (a := .bool false) (b := .slice Ra (j + 1) cr) (c := .bool false) (d := .slice (some ⟨w5.heap.size, 0, none⟩) 1 1) (t := 26) rfl
      have a2 := at_allocF2 (W := u5) (a := .bool false) (b := .slice Ra (j + 1) cr) (c := .bool false) (d := .slice (some ⟨w5.heap.size, 0, none⟩) 1 1) (t := 26) rfl
      have a3 := at_allocF3 (W := u5) (a := .bool false) (b := .slice Ra (j + 1) cr) (c := .bool false) (d := .slice (some ⟨w5.heap.size, 0, none⟩) 1 1) (t := 26) rfl
      have hv_ : Below u5.heap.size u5 (u5.alloc (.cells #[.bool false, .slice Ra (j + 1) cr, .bool false, .slice (some ⟨w5.heap.size, 0, none⟩) 1 1] 26)) := (Below.refl _ _).alloc (Nat.le_refl _) _
      generalize u5.alloc (.cells #[.bool false, .slice Ra (j + 1) cr, .bool false, .slice (some ⟨w5.heap.size, 0, none⟩) 1 1] 26) = u6 at *
      replace m1 := m1.below hv_
      replace m2 := m2.below hv_
      replace z1 := z1.below hv_
      replace q0 := keep_cell hv_ q0
      replace q1 := keep_cell hv_ q1
      replace q2 := keep_cell hv_ q2
      replace q3 := keep_cell hv_ q3
      replace HB := HB.trans (hv_.mono HB.size)
      clear hv_
      rw [hs_] at a0 a1 a2 a3
      have lt_a := cell_lt a0
      have f_z1 := z1.fr
      go_wp2
      refine bodyPost_ret (v := .agg #[.bool false, .slice (some ⟨w5.heap.size, 0, none⟩) 1 1, .bool false, .slice Ra (j + 1) cr]) ?_ rfl ?_
      · simp [results, Tryz.results35, go_sem, q0, q1, q2, q3]
      · obtain ⟨j1_, j2_, j3_⟩ := fin_fr m2 m1 HB (by omega) q0 q1 q2 q3 (.bool false) (.slice (some ⟨w5.heap.size, 0, none⟩) 1 1) (.bool false) (.slice Ra (j + 1) cr)
        exact ⟨_, _, _, _, rfl, j1_, j2_, j3_⟩
end Go.Proofs.YtfhbigfbeppinaaGreatDoor
