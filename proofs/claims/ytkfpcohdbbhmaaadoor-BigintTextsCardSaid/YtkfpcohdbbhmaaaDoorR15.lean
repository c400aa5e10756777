/- The reference: the walk of Parse. Conditions: none. -/
import Derived.Test.YtkfpcohdbbhmaaaDoorR12
import Derived.Test.YtkfpcohdbbhmaaaDoorBi26
namespace Go.Proofs.YtkfpcohdbbhmaaaDoor
set_option linter.unusedVariables false
set_option linter.unusedSimpArgs false
open Go.RowKit Big

set_option maxRecDepth 100000 in
set_option maxHeartbeats 1000000 in
/-- no sign ahead -/
theorem RParse_plain (D : ByteArray) (w : World) (hns : ∀ h : 0 < D.size, D[0]'h ≠ 45) :
    Calls Tryd.prog 24 #[.string D] w (RetZE w (parD false D.data.toList).1 (parD false D.data.toList).2) := by
  have HI := hid fun (w1 : World) (b : Bool) (R1 : Option Addr) (c1 : Nat) (P : Nat) (h1 : Mg w1 R1 c1 (limbs P)) (hl : (limbs P).length ≤ 4096) => Rsigned_n R1 c1 P w1 h1 (by omega) b
  have HS := hid fun (w1 : World) (R1 : Option Addr) (c1 P d : Nat) (h1 : Mg w1 R1 c1 (limbs P)) (hl : (limbs P).length ≤ 4096) (hd : d ≤ 9) => (show Calls Tryd.prog 66 #[.slice R1 (limbs P).length c1, .int .u64 10, .int .u64 d] w1 (RetNF w1 (P * 10 + d)) by
    have := Rlonger_fr R1 c1 _ 10 d w1 h1 (by omega) (by omega) (by omega)
    rwa [val_limbs] at this)
  have HZ : Hid (D.size = D.data.toList.length) := Lib.size_eq D
  have HL : Hid (D.toList = D.data.toList) := ByteArray.toList_eq D
  obtain ⟨RR, hRR⟩ : ∃ RR, RR = parD false D.data.toList := ⟨_, rfl⟩
  rw [← hRR]
  have HR := hid hRR
  clear hRR
  by_cases h3 : 0 < D.size
  · have hns1 : ((((D[0]'h3).toNat : Nat) : Int) == 45) = false := by
      rw [beq_eq_false_iff_ne]
      intro h
      exact hns h3 (UInt8.toNat_inj.1 (by show _ = 45; omega))
    clear hns
    by_cases h1 : 4096 < D.size
    · have hR : RR = (0, 4) := by rw [HR.out]; unfold parD; rw [if_pos (by rw [← HZ.out]; exact h1)]
      rw [hR]
      go_enter Tryd.func24, Tryd.ntmps24
      go_wp2_with fail
      refine bodyPost_ret (v := .tuple #[.agg #[.bool false, .slice none 0 0], .int .i64 4]) ?_ rfl ?_
      · simp [results, Tryd.results24, go_sem]
      · exact retZE_zero _ ((Below.refl _ _).alloc (Nat.le_refl _) _)
    · have HR1 : Hid (RR = if D.data.toList = [] ∨ (D.data.toList.head? = some 48 ∧ (false = true ∨ 1 < D.data.toList.length)) then (0, 9) else if ∀ x ∈ D.data.toList, digit x then (sg false (ofd 10 0 (dvals D.data.toList)), 0) else (0, 9)) := by
        unfold Hid; rw [HR.out]; unfold parD; rw [if_neg (by rw [← HZ.out]; exact h1)]
      clear HR
      have hz0 : ((D.size : Int) == 0) = false := by rw [beq_eq_false_iff_ne]; omega
      have h2 : D.data.toList ≠ [] := fun h => by
        have e := HZ.out
        rw [h, List.length_nil] at e
        omega
      have HH : Hid (D.data.toList.head? = some (D[0]'h3)) := by
        unfold Hid
        rw [List.head?_eq_getElem?, List.getElem?_eq_getElem (by rw [← HZ.out]; exact h3)]
        rfl
      by_cases hb0 : (((D[0]'h3).toNat : Int) = 48)
      · have hb1 : (((D[0]'h3).toNat : Int) == 48) = true := by rw [beq_iff_eq]; exact hb0
        have hd0 : D[0]'h3 = 48 := UInt8.toNat_inj.1 (Int.natCast_inj.1 (hb0.trans (show (48 : Int) = ((48 : UInt8).toNat : Int) from rfl)))
        by_cases hb2 : 1 < D.size
        · have hR : RR = (0, 9) := by
            rw [HR1.out, if_pos (.inr ⟨by rw [HH.out, hd0], .inr (by rw [← HZ.out]; exact hb2)⟩)]
          clear hd0
          rw [hR]
          go_enter Tryd.func24, Tryd.ntmps24
          go_wp2_with fail
          refine bodyPost_ret (v := .tuple #[.agg #[.bool false, .slice none 0 0], .int .i64 9]) ?_ rfl ?_
          · simp [results, Tryd.results24, go_sem]
          · exact retZE_zero _ ((Below.refl _ _).alloc (Nat.le_refl _) _)
        · have HR2 : Hid (RR = if ∀ x ∈ D.data.toList, digit x then (sg false (ofd 10 0 (dvals D.data.toList)), 0) else (0, 9)) := by
            unfold Hid
            rw [HR1.out, if_neg]
            rintro (h | ⟨h, h'⟩)
            · exact h2 h
            · rcases h' with h' | h'
              · cases h'
              · exact hb2 (by rw [HZ.out]; exact h')
          clear HR1 HH hd0
          go_enter Tryd.func24, Tryd.ntmps24
          go_wp2_with fail
          go_loopw [5, 6] (fun s5 s6 wr => ∃ (i : Nat) (R : Option Addr) (cc P : Nat), s6 = .int .i64 i ∧ i ≤ D.size ∧ s5 = .slice R (limbs P).length cc ∧ Mg wr R cc (limbs P) ∧ (limbs P).length ≤ i ∧ Below (w.heap.size + 1) (w.alloc (.cells #[.bool false, .slice none 0 0] 24)) wr ∧ Hid (P = ofd 10 0 (dvals (D.data.toList.take i))) ∧ Hid (∀ x ∈ D.data.toList.take i, digit x)) (fun _ s6 _ => D.size - (intOf s6).toNat)
          case atStart => exact ⟨0, none, 0, 0, rfl, Nat.zero_le _, by simp [limbs_zero], mg_nil _, by simp [limbs_zero], by have := Below.refl (w.alloc (.cells #[.bool false, .slice none 0 0] 24)).heap.size (w.alloc (.cells #[.bool false, .slice none 0 0] 24)); simpa using this, rfl, by unfold Hid; simp⟩
          case round =>
            obtain ⟨i, R, cc, P, rfl, hi, rfl, hm, hl, hbl, hP, hok⟩ := hrel
            have hbl0 : Below (w.alloc (.cells #[.bool false, .slice none 0 0] 24)).heap.size (w.alloc (.cells #[.bool false, .slice none 0 0] 24)) wr := by simpa using hbl
            obtain ⟨p1, p2, p3⟩ := box_keep hbl0
            have bw : Below w.heap.size w wr := ((Below.refl _ _).alloc (Nat.le_refl _) _).trans (hbl0.mono (by simp))
            have hsz := hbl.size
            simp at hsz
            by_cases hlt : i < D.size
            · have hget : Hid (D.data.toList.take (i + 1) = D.data.toList.take i ++ [D[i]'hlt]) := by
                unfold Hid
                rw [List.take_succ_eq_append_getElem (by rw [← HZ.out]; exact hlt)]
                rfl
              have hmem : Hid (D[i]'hlt ∈ D.data.toList) := by
                unfold Hid
                have : D[i]'hlt = D.data.toList[i]'(by rw [← HZ.out]; exact hlt) := rfl
                rw [this]
                exact List.getElem_mem _
              by_cases hx : digit (D[i]'hlt)
              · have hd48 : 48 ≤ (D[i]'hlt).toNat := hx.1
                have hd57 : (D[i]'hlt).toNat ≤ 57 := hx.2
                obtain ⟨d, hd⟩ : ∃ d : Nat, (D[i]'hlt).toNat = d + 48 := ⟨(D[i]'hlt).toNat - 48, by omega⟩
                have hdi : ((D[i]'hlt).toNat : Int) - 48 = (d : Int) := by omega
                have hd1 : (48 : Int) ≤ ((D[i]'hlt).toNat : Int) := by omega
                have hd2 : ((D[i]'hlt).toNat : Int) ≤ 57 := by omega
                have hd9 : d ≤ 9 := by omega
                have hP2 : Hid (P * 10 + d = ofd 10 0 (dvals (D.data.toList.take (i + 1)))) := by
                  unfold Hid
                  rw [hget.out]
                  unfold dvals
                  rw [List.map_append, ofd_app]
                  have := hP.out
                  unfold dvals at this
                  rw [← this]
                  show _ = P * 10 + ((D[i]'hlt).toNat - 48)
                  omega
                have hok2 : Hid (∀ y ∈ D.data.toList.take (i + 1), digit y) := by
                  unfold Hid
                  rw [hget.out]
                  intro y hy
                  rcases List.mem_append.1 hy with hy | hy
                  · exact hok.out y hy
                  · rw [List.mem_singleton] at hy; subst hy; exact hx
                clear hget hmem hx hok hP HR2 HL hd hd48 hd57
                have HC := HS.out wr R cc P d hm (by omega) (by omega)
                have hlQ := limbs_len2 (n := P) (m := 10) (p := d) (by omega) (by omega)
                generalize P * 10 + d = Q at *
                rw [← hdi] at HC
                have HC := hid HC
                clear hdi
                go_wp2_with (go_at_call 66; refine HC.out.mono ?_; rintro e w3 ⟨R3, c3, rfl, hr3, h3, hf3⟩)
                go_roundw
                case rel => exact ⟨i + 1, R3, c3, Q, by go_num, hlt, rfl, hr3, by omega, hbl.trans (h3.mono (by omega)), hP2, hok2⟩
                case measure => simp [intOf]; omega
              · have hR : RR = (0, 9) := by rw [HR2.out, if_neg (fun h => hx (h _ hmem.out))]
                have hr : (D[i]'hlt).toNat < 48 ∨ 57 < (D[i]'hlt).toNat := by unfold digit at hx; omega
                have hR := hid hR
                have k0 := p1 0
                have k1 := p1 1
                simp at k0 k1
                clear HR2 hget hmem hok hP HS HI HL hx
                rcases hr with hr | hr
                · have hr2 : ((D[i]'hlt).toNat : Int) < 48 := by omega
                  go_wp2_with fail
                  refine bodyPost_ret (v := .tuple #[.agg #[.bool false, .slice none 0 0], .int .i64 9]) ?_ rfl ?_
                  · simp [results, Tryd.results24, go_sem, k0, k1]
                  · rw [hR.out]
                    exact fin_bad bw _ _ _
                · have hr2 : (48 : Int) ≤ ((D[i]'hlt).toNat : Int) := by omega
                  have hr3 : (57 : Int) < ((D[i]'hlt).toNat : Int) := by omega
                  go_wp2_with fail
                  refine bodyPost_ret (v := .tuple #[.agg #[.bool false, .slice none 0 0], .int .i64 9]) ?_ rfl ?_
                  · simp [results, Tryd.results24, go_sem, k0, k1]
                  · rw [hR.out]
                    exact fin_bad bw _ _ _
            · obtain rfl : i = D.size := by omega
              have hall : ∀ x ∈ D.data.toList, digit x := by have := hok.out; rw [HZ.out, List.take_length] at this; exact this
              have hR : RR = (sg false P, 0) := by
                rw [HR2.out, if_pos hall]
                have := hP.out
                rw [HZ.out, List.take_length] at this
                rw [← this]
              have HCI := hid (HI.out wr false R cc P hm (by omega))
              clear HR2 HS hall hok hP
              generalize sg false P = Z at *
              have HRZ := hid hR
              clear hR
              go_wp2_with (go_at_call 56; refine HCI.out.mono ?_; rintro e w3 ⟨R3, c3, rfl, hr3, h3⟩; obtain ⟨q1, q2, q3⟩ := box_keep (hbl0.trans (h3.mono hbl0.size)))
              have k0 := q1 0
              have k1 := q1 1
              simp at k0 k1
              refine bodyPost_ret (v := .tuple #[.agg #[.bool (decide ((Z) < 0)), .slice R3 (limbs (Int.natAbs (Z))).length c3], .int .i64 0]) ?_ rfl ?_
              · simp [results, Tryd.results24, go_sem, k0, k1]
              · rw [HRZ.out]
                exact fin_ze hr3 (bw.trans (h3.mono bw.size)) (Nat.le_refl _) k0 k1 _ _
      · have hb1 : (((D[0]'h3).toNat : Int) == 48) = false := by rw [beq_eq_false_iff_ne]; exact hb0
        have HR2 : Hid (RR = if ∀ x ∈ D.data.toList, digit x then (sg false (ofd 10 0 (dvals D.data.toList)), 0) else (0, 9)) := by
          unfold Hid
          rw [HR1.out, if_neg]
          rintro (h | ⟨h, h'⟩)
          · exact h2 h
          · rw [HH.out] at h
            injection h with h
            exact hb0 (by rw [h]; rfl)
        clear HR1 HH hb0
        go_enter Tryd.func24, Tryd.ntmps24
        go_wp2_with fail
        go_loopw [5, 6] (fun s5 s6 wr => ∃ (i : Nat) (R : Option Addr) (cc P : Nat), s6 = .int .i64 i ∧ i ≤ D.size ∧ s5 = .slice R (limbs P).length cc ∧ Mg wr R cc (limbs P) ∧ (limbs P).length ≤ i ∧ Below (w.heap.size + 1) (w.alloc (.cells #[.bool false, .slice none 0 0] 24)) wr ∧ Hid (P = ofd 10 0 (dvals (D.data.toList.take i))) ∧ Hid (∀ x ∈ D.data.toList.take i, digit x)) (fun _ s6 _ => D.size - (intOf s6).toNat)
        case atStart => exact ⟨0, none, 0, 0, rfl, Nat.zero_le _, by simp [limbs_zero], mg_nil _, by simp [limbs_zero], by have := Below.refl (w.alloc (.cells #[.bool false, .slice none 0 0] 24)).heap.size (w.alloc (.cells #[.bool false, .slice none 0 0] 24)); simpa using this, rfl, by unfold Hid; simp⟩
        case round =>
          obtain ⟨i, R, cc, P, rfl, hi, rfl, hm, hl, hbl, hP, hok⟩ := hrel
          have hbl0 : Below (w.alloc (.cells #[.bool false, .slice none 0 0] 24)).heap.size (w.alloc (.cells #[.bool false, .slice none 0 0] 24)) wr := by simpa using hbl
          obtain ⟨p1, p2, p3⟩ := box_keep hbl0
          have bw : Below w.heap.size w wr := ((Below.refl _ _).alloc (Nat.le_refl _) _).trans (hbl0.mono (by simp))
          have hsz := hbl.size
          simp at hsz
          by_cases hlt : i < D.size
          · have hget : Hid (D.data.toList.take (i + 1) = D.data.toList.take i ++ [D[i]'hlt]) := by
              unfold Hid
              rw [List.take_succ_eq_append_getElem (by rw [← HZ.out]; exact hlt)]
              rfl
            have hmem : Hid (D[i]'hlt ∈ D.data.toList) := by
              unfold Hid
              have : D[i]'hlt = D.data.toList[i]'(by rw [← HZ.out]; exact hlt) := rfl
              rw [this]
              exact List.getElem_mem _
            by_cases hx : digit (D[i]'hlt)
            · have hd48 : 48 ≤ (D[i]'hlt).toNat := hx.1
              have hd57 : (D[i]'hlt).toNat ≤ 57 := hx.2
              obtain ⟨d, hd⟩ : ∃ d : Nat, (D[i]'hlt).toNat = d + 48 := ⟨(D[i]'hlt).toNat - 48, by omega⟩
              have hdi : ((D[i]'hlt).toNat : Int) - 48 = (d : Int) := by omega
              have hd1 : (48 : Int) ≤ ((D[i]'hlt).toNat : Int) := by omega
              have hd2 : ((D[i]'hlt).toNat : Int) ≤ 57 := by omega
              have hd9 : d ≤ 9 := by omega
              have hP2 : Hid (P * 10 + d = ofd 10 0 (dvals (D.data.toList.take (i + 1)))) := by
                unfold Hid
                rw [hget.out]
                unfold dvals
                rw [List.map_append, ofd_app]
                have := hP.out
                unfold dvals at this
                rw [← this]
                show _ = P * 10 + ((D[i]'hlt).toNat - 48)
                omega
              have hok2 : Hid (∀ y ∈ D.data.toList.take (i + 1), digit y) := by
                unfold Hid
                rw [hget.out]
                intro y hy
                rcases List.mem_append.1 hy with hy | hy
                · exact hok.out y hy
                · rw [List.mem_singleton] at hy; subst hy; exact hx
              clear hget hmem hx hok hP HR2 HL hd hd48 hd57
              have HC := HS.out wr R cc P d hm (by omega) (by omega)
              have hlQ := limbs_len2 (n := P) (m := 10) (p := d) (by omega) (by omega)
              generalize P * 10 + d = Q at *
              rw [← hdi] at HC
              have HC := hid HC
              clear hdi
              go_wp2_with (go_at_call 66; refine HC.out.mono ?_; rintro e w3 ⟨R3, c3, rfl, hr3, h3, hf3⟩)
              go_roundw
              case rel => exact ⟨i + 1, R3, c3, Q, by go_num, hlt, rfl, hr3, by omega, hbl.trans (h3.mono (by omega)), hP2, hok2⟩
              case measure => simp [intOf]; omega
            · have hR : RR = (0, 9) := by rw [HR2.out, if_neg (fun h => hx (h _ hmem.out))]
              have hr : (D[i]'hlt).toNat < 48 ∨ 57 < (D[i]'hlt).toNat := by unfold digit at hx; omega
              have hR := hid hR
              have k0 := p1 0
              have k1 := p1 1
              simp at k0 k1
              clear HR2 hget hmem hok hP HS HI HL hx
              rcases hr with hr | hr
              · have hr2 : ((D[i]'hlt).toNat : Int) < 48 := by omega
                go_wp2_with fail
                refine bodyPost_ret (v := .tuple #[.agg #[.bool false, .slice none 0 0], .int .i64 9]) ?_ rfl ?_
                · simp [results, Tryd.results24, go_sem, k0, k1]
                · rw [hR.out]
                  exact fin_bad bw _ _ _
              · have hr2 : (48 : Int) ≤ ((D[i]'hlt).toNat : Int) := by omega
                have hr3 : (57 : Int) < ((D[i]'hlt).toNat : Int) := by omega
                go_wp2_with fail
                refine bodyPost_ret (v := .tuple #[.agg #[.bool false, .slice none 0 0], .int .i64 9]) ?_ rfl ?_
                · simp [results, Tryd.results24, go_sem, k0, k1]
                · rw [hR.out]
                  exact fin_bad bw _ _ _
          · obtain rfl : i = D.size := by omega
            have hall : ∀ x ∈ D.data.toList, digit x := by have := hok.out; rw [HZ.out, List.take_length] at this; exact this
            have hR : RR = (sg false P, 0) := by
              rw [HR2.out, if_pos hall]
              have := hP.out
              rw [HZ.out, List.take_length] at this
              rw [← this]
            have HCI := hid (HI.out wr false R cc P hm (by omega))
            clear HR2 HS hall hok hP
            generalize sg false P = Z at *
            have HRZ := hid hR
            clear hR
            go_wp2_with (go_at_call 56; refine HCI.out.mono ?_; rintro e w3 ⟨R3, c3, rfl, hr3, h3⟩; obtain ⟨q1, q2, q3⟩ := box_keep (hbl0.trans (h3.mono hbl0.size)))
            have k0 := q1 0
            have k1 := q1 1
            simp at k0 k1
            refine bodyPost_ret (v := .tuple #[.agg #[.bool (decide ((Z) < 0)), .slice R3 (limbs (Int.natAbs (Z))).length c3], .int .i64 0]) ?_ rfl ?_
            · simp [results, Tryd.results24, go_sem, k0, k1]
            · rw [HRZ.out]
              exact fin_ze hr3 (bw.trans (h3.mono bw.size)) (Nat.le_refl _) k0 k1 _ _
  · have hR : RR = (0, 9) := by
      have hz : D.data.toList = [] := List.eq_nil_of_length_eq_zero (by rw [← HZ.out]; omega)
      rw [HR.out]; unfold parD; rw [hz]; simp
    have hz : D.size = 0 := by omega
    clear hns
    rw [hR]
    go_enter Tryd.func24, Tryd.ntmps24
    go_wp2_with fail
    refine bodyPost_ret (v := .tuple #[.agg #[.bool false, .slice none 0 0], .int .i64 9]) ?_ rfl ?_
    · simp [results, Tryd.results24, go_sem]
    · exact retZE_zero _ ((Below.refl _ _).alloc (Nat.le_refl _) _)

set_option maxRecDepth 100000 in
set_option maxHeartbeats 1000000 in
/-- a sign ahead -/
theorem RParse_sign (s D : ByteArray) (w : World) (h0 : 0 < s.size) (hs0 : ((s[0]'h0).toNat : Int) = 45) (hD : D = s.extract 1 s.size) :
    Calls Tryd.prog 24 #[.string s] w (RetZE w (parD true D.data.toList).1 (parD true D.data.toList).2) := by
  have hE : s.extract 1 s.size = D := hD.symm
  clear hD
  have HI := hid fun (w1 : World) (b : Bool) (R1 : Option Addr) (c1 : Nat) (P : Nat) (h1 : Mg w1 R1 c1 (limbs P)) (hl : (limbs P).length ≤ 4096) => Rsigned_n R1 c1 P w1 h1 (by omega) b
  have HS := hid fun (w1 : World) (R1 : Option Addr) (c1 P d : Nat) (h1 : Mg w1 R1 c1 (limbs P)) (hl : (limbs P).length ≤ 4096) (hd : d ≤ 9) => (show Calls Tryd.prog 66 #[.slice R1 (limbs P).length c1, .int .u64 10, .int .u64 d] w1 (RetNF w1 (P * 10 + d)) by
    have := Rlonger_fr R1 c1 _ 10 d w1 h1 (by omega) (by omega) (by omega)
    rwa [val_limbs] at this)
  have HZ : Hid (D.size = D.data.toList.length) := Lib.size_eq D
  have HL : Hid (D.toList = D.data.toList) := ByteArray.toList_eq D
  have hss : s.size ≤ 9223372036854775807 ∨ 9223372036854775807 < s.size := by omega
  obtain ⟨RR, hRR⟩ : ∃ RR, RR = parD true D.data.toList := ⟨_, rfl⟩
  rw [← hRR]
  have HR := hid hRR
  clear hRR
  have hs1 : (((s[0]'h0).toNat : Int) == 45) = true := by rw [beq_iff_eq]; exact hs0
  by_cases h1 : 4096 < D.size
  · have hR : RR = (0, 4) := by rw [HR.out]; unfold parD; rw [if_pos (by rw [← HZ.out]; exact h1)]
    rw [hR]
    go_enter Tryd.func24, Tryd.ntmps24
    go_wp2_with fail
    refine bodyPost_ret (v := .tuple #[.agg #[.bool false, .slice none 0 0], .int .i64 4]) ?_ rfl ?_
    · simp [results, Tryd.results24, go_sem]
    · exact retZE_zero _ ((Below.refl _ _).alloc (Nat.le_refl _) _)
  · have HR1 : Hid (RR = if D.data.toList = [] ∨ (D.data.toList.head? = some 48 ∧ (true = true ∨ 1 < D.data.toList.length)) then (0, 9) else if ∀ x ∈ D.data.toList, digit x then (sg true (ofd 10 0 (dvals D.data.toList)), 0) else (0, 9)) := by
      unfold Hid; rw [HR.out]; unfold parD; rw [if_neg (by rw [← HZ.out]; exact h1)]
    clear HR
    by_cases h3 : 0 < D.size
    · have hz0 : ((D.size : Int) == 0) = false := by rw [beq_eq_false_iff_ne]; omega
      have h2 : D.data.toList ≠ [] := fun h => by
        have e := HZ.out
        rw [h, List.length_nil] at e
        omega
      have HH : Hid (D.data.toList.head? = some (D[0]'h3)) := by
        unfold Hid
        rw [List.head?_eq_getElem?, List.getElem?_eq_getElem (by rw [← HZ.out]; exact h3)]
        rfl
      by_cases hb0 : (((D[0]'h3).toNat : Int) = 48)
      · have hb1 : (((D[0]'h3).toNat : Int) == 48) = true := by rw [beq_iff_eq]; exact hb0
        have hd0 : D[0]'h3 = 48 := UInt8.toNat_inj.1 (Int.natCast_inj.1 (hb0.trans (show (48 : Int) = ((48 : UInt8).toNat : Int) from rfl)))
        have hR : RR = (0, 9) := by
          rw [HR1.out, if_pos (.inr ⟨by rw [HH.out, hd0], .inl rfl⟩)]
        clear hd0
        by_cases hb2 : 1 < D.size
        · rw [hR]
          go_enter Tryd.func24, Tryd.ntmps24
          go_wp2_with fail
          refine bodyPost_ret (v := .tuple #[.agg #[.bool false, .slice none 0 0], .int .i64 9]) ?_ rfl ?_
          · simp [results, Tryd.results24, go_sem]
          · exact retZE_zero _ ((Below.refl _ _).alloc (Nat.le_refl _) _)
        · rw [hR]
          go_enter Tryd.func24, Tryd.ntmps24
          go_wp2_with fail
          refine bodyPost_ret (v := .tuple #[.agg #[.bool false, .slice none 0 0], .int .i64 9]) ?_ rfl ?_
          · simp [results, Tryd.results24, go_sem]
          · exact retZE_zero _ ((Below.refl _ _).alloc (Nat.le_refl _) _)
      · have hb1 : (((D[0]'h3).toNat : Int) == 48) = false := by rw [beq_eq_false_iff_ne]; exact hb0
        have HR2 : Hid (RR = if ∀ x ∈ D.data.toList, digit x then (sg true (ofd 10 0 (dvals D.data.toList)), 0) else (0, 9)) := by
          unfold Hid
          rw [HR1.out, if_neg]
          rintro (h | ⟨h, h'⟩)
          · exact h2 h
          · rw [HH.out] at h
            injection h with h
            exact hb0 (by rw [h]; rfl)
        clear HR1 HH hb0
        go_enter Tryd.func24, Tryd.ntmps24
        go_wp2_with fail
        go_loopw [5, 6] (fun s5 s6 wr => ∃ (i : Nat) (R : Option Addr) (cc P : Nat), s6 = .int .i64 i ∧ i ≤ D.size ∧ s5 = .slice R (limbs P).length cc ∧ Mg wr R cc (limbs P) ∧ (limbs P).length ≤ i ∧ Below (w.heap.size + 1) (w.alloc (.cells #[.bool false, .slice none 0 0] 24)) wr ∧ Hid (P = ofd 10 0 (dvals (D.data.toList.take i))) ∧ Hid (∀ x ∈ D.data.toList.take i, digit x)) (fun _ s6 _ => D.size - (intOf s6).toNat)
        case atStart => exact ⟨0, none, 0, 0, rfl, Nat.zero_le _, by simp [limbs_zero], mg_nil _, by simp [limbs_zero], by have := Below.refl (w.alloc (.cells #[.bool false, .slice none 0 0] 24)).heap.size (w.alloc (.cells #[.bool false, .slice none 0 0] 24)); simpa using this, rfl, by unfold Hid; simp⟩
        case round =>
          obtain ⟨i, R, cc, P, rfl, hi, rfl, hm, hl, hbl, hP, hok⟩ := hrel
          have hbl0 : Below (w.alloc (.cells #[.bool false, .slice none 0 0] 24)).heap.size (w.alloc (.cells #[.bool false, .slice none 0 0] 24)) wr := by simpa using hbl
          obtain ⟨p1, p2, p3⟩ := box_keep hbl0
          have bw : Below w.heap.size w wr := ((Below.refl _ _).alloc (Nat.le_refl _) _).trans (hbl0.mono (by simp))
          have hsz := hbl.size
          simp at hsz
          by_cases hlt : i < D.size
          · have hget : Hid (D.data.toList.take (i + 1) = D.data.toList.take i ++ [D[i]'hlt]) := by
              unfold Hid
              rw [List.take_succ_eq_append_getElem (by rw [← HZ.out]; exact hlt)]
              rfl
            have hmem : Hid (D[i]'hlt ∈ D.data.toList) := by
              unfold Hid
              have : D[i]'hlt = D.data.toList[i]'(by rw [← HZ.out]; exact hlt) := rfl
              rw [this]
              exact List.getElem_mem _
            by_cases hx : digit (D[i]'hlt)
            · have hd48 : 48 ≤ (D[i]'hlt).toNat := hx.1
              have hd57 : (D[i]'hlt).toNat ≤ 57 := hx.2
              obtain ⟨d, hd⟩ : ∃ d : Nat, (D[i]'hlt).toNat = d + 48 := ⟨(D[i]'hlt).toNat - 48, by omega⟩
              have hdi : ((D[i]'hlt).toNat : Int) - 48 = (d : Int) := by omega
              have hd1 : (48 : Int) ≤ ((D[i]'hlt).toNat : Int) := by omega
              have hd2 : ((D[i]'hlt).toNat : Int) ≤ 57 := by omega
              have hd9 : d ≤ 9 := by omega
              have hP2 : Hid (P * 10 + d = ofd 10 0 (dvals (D.data.toList.take (i + 1)))) := by
                unfold Hid
                rw [hget.out]
                unfold dvals
                rw [List.map_append, ofd_app]
                have := hP.out
                unfold dvals at this
                rw [← this]
                show _ = P * 10 + ((D[i]'hlt).toNat - 48)
                omega
              have hok2 : Hid (∀ y ∈ D.data.toList.take (i + 1), digit y) := by
                unfold Hid
                rw [hget.out]
                intro y hy
                rcases List.mem_append.1 hy with hy | hy
                · exact hok.out y hy
                · rw [List.mem_singleton] at hy; subst hy; exact hx
              clear hget hmem hx hok hP HR2 HL hd hd48 hd57
              have HC := HS.out wr R cc P d hm (by omega) (by omega)
              have hlQ := limbs_len2 (n := P) (m := 10) (p := d) (by omega) (by omega)
              generalize P * 10 + d = Q at *
              rw [← hdi] at HC
              have HC := hid HC
              clear hdi
              go_wp2_with (go_at_call 66; refine HC.out.mono ?_; rintro e w3 ⟨R3, c3, rfl, hr3, h3, hf3⟩)
              go_roundw
              case rel => exact ⟨i + 1, R3, c3, Q, by go_num, hlt, rfl, hr3, by omega, hbl.trans (h3.mono (by omega)), hP2, hok2⟩
              case measure => simp [intOf]; omega
            · have hR : RR = (0, 9) := by rw [HR2.out, if_neg (fun h => hx (h _ hmem.out))]
              have hr : (D[i]'hlt).toNat < 48 ∨ 57 < (D[i]'hlt).toNat := by unfold digit at hx; omega
              have hR := hid hR
              have k0 := p1 0
              have k1 := p1 1
              simp at k0 k1
              clear HR2 hget hmem hok hP HS HI HL hx
              rcases hr with hr | hr
              · have hr2 : ((D[i]'hlt).toNat : Int) < 48 := by omega
                go_wp2_with fail
                refine bodyPost_ret (v := .tuple #[.agg #[.bool false, .slice none 0 0], .int .i64 9]) ?_ rfl ?_
                · simp [results, Tryd.results24, go_sem, k0, k1]
                · rw [hR.out]
                  exact fin_bad bw _ _ _
              · have hr2 : (48 : Int) ≤ ((D[i]'hlt).toNat : Int) := by omega
                have hr3 : (57 : Int) < ((D[i]'hlt).toNat : Int) := by omega
                go_wp2_with fail
                refine bodyPost_ret (v := .tuple #[.agg #[.bool false, .slice none 0 0], .int .i64 9]) ?_ rfl ?_
                · simp [results, Tryd.results24, go_sem, k0, k1]
                · rw [hR.out]
                  exact fin_bad bw _ _ _
          · obtain rfl : i = D.size := by omega
            have hall : ∀ x ∈ D.data.toList, digit x := by have := hok.out; rw [HZ.out, List.take_length] at this; exact this
            have hR : RR = (sg true P, 0) := by
              rw [HR2.out, if_pos hall]
              have := hP.out
              rw [HZ.out, List.take_length] at this
              rw [← this]
            have HCI := hid (HI.out wr true R cc P hm (by omega))
            clear HR2 HS hall hok hP
            generalize sg true P = Z at *
            have HRZ := hid hR
            clear hR
            go_wp2_with (go_at_call 56; refine HCI.out.mono ?_; rintro e w3 ⟨R3, c3, rfl, hr3, h3⟩; obtain ⟨q1, q2, q3⟩ := box_keep (hbl0.trans (h3.mono hbl0.size)))
            have k0 := q1 0
            have k1 := q1 1
            simp at k0 k1
            refine bodyPost_ret (v := .tuple #[.agg #[.bool (decide ((Z) < 0)), .slice R3 (limbs (Int.natAbs (Z))).length c3], .int .i64 0]) ?_ rfl ?_
            · simp [results, Tryd.results24, go_sem, k0, k1]
            · rw [HRZ.out]
              exact fin_ze hr3 (bw.trans (h3.mono bw.size)) (Nat.le_refl _) k0 k1 _ _
    · have hR : RR = (0, 9) := by
        have hz : D.data.toList = [] := List.eq_nil_of_length_eq_zero (by rw [← HZ.out]; omega)
        rw [HR1.out, hz]; simp
      have hz : D.size = 0 := by omega
      rw [hR]
      go_enter Tryd.func24, Tryd.ntmps24
      go_wp2_with fail
      refine bodyPost_ret (v := .tuple #[.agg #[.bool false, .slice none 0 0], .int .i64 9]) ?_ rfl ?_
      · simp [results, Tryd.results24, go_sem]
      · exact retZE_zero _ ((Below.refl _ _).alloc (Nat.le_refl _) _)

theorem RParse_any (s : ByteArray) (w : World) :
    Calls Tryd.prog 24 #[.string s] w (RetZE w (parE s.data.toList).1 (parE s.data.toList).2) := by
  have HZ : s.size = s.data.toList.length := Lib.size_eq s
  by_cases h : ∃ h : 0 < s.size, s[0]'h = 45
  · obtain ⟨h0, h45⟩ := h
    have hl : s.data.toList = 45 :: s.data.toList.drop 1 := by
      have hlen : 0 < s.data.toList.length := by rw [← HZ]; exact h0
      rw [← List.drop_zero (l := s.data.toList)]
      conv => lhs; rw [List.drop_eq_getElem_cons hlen]
      congr 1
    have e : parE s.data.toList = parD true (s.data.toList.drop 1) := by
      rw [hl]
      simp [parE, Lib.hasPrefix, Lib.trimPrefix]
    have hD : (s.extract 1 s.size).data.toList = s.data.toList.drop 1 := by
      rw [Lib.extract_data]
      exact List.take_of_length_le (by simp)
    rw [e, ← hD]
    refine RParse_sign s _ w h0 ?_ rfl
    rw [h45]; rfl
  · have e : parE s.data.toList = parD false s.data.toList := by
      cases hs : s.data.toList with
      | nil => rfl
      | cons x r =>
        have h0 : 0 < s.size := by rw [HZ, hs]; simp
        have hx : x ≠ 45 := by
          intro hx
          apply h
          refine ⟨h0, ?_⟩
          have : s[0]'h0 = s.data.toList[0]'(by rw [← HZ]; exact h0) := rfl
          rw [this]
          simp [hs, hx]
        have hp0 : ((45 : UInt8) == x) = false := by rw [beq_eq_false_iff_ne]; exact fun h => hx h.symm
        have hp : Lib.hasPrefix (x :: r) [45] = false := by
          show ((45 : UInt8) == x && List.isPrefixOf [] r) = false
          rw [hp0]; rfl
        simp [parE, Lib.trimPrefix, hp]
    rw [e]
    exact RParse_plain s w (fun h0 h45 => h ⟨h0, h45⟩)
end Go.Proofs.YtkfpcohdbbhmaaaDoor
