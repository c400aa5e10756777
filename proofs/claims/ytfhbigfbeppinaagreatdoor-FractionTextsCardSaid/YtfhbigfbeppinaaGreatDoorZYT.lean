/- The reference: the walk of Parse. Conditions: none. -/
import Derived.Test.YtfhbigfbeppinaaGreatDoorZYN
import Derived.Test.YtfhbigfbeppinaaGreatDoorZYD
import Derived.Test.YtfhbigfbeppinaaGreatDoorZYE
import Derived.Laws.IdiomStrings
import Derived.Test.YtfhbigfbeppinaaGreatDoorZQ3I
import Derived.Test.YtfhbigfbeppinaaGreatDoorZFrQ
set_option linter.unusedVariables false
set_option linter.unusedSimpArgs false
namespace Go.Proofs.YtfhbigfbeppinaaGreatDoor
open Go.RowKit Big

set_option maxRecDepth 100000 in
set_option maxHeartbeats 1000000 in
/-- no sign ahead -/
theorem RParse_plain (D : ByteArray) (w : World) (hns : ∀ h : 0 < D.size, D[0]'h ≠ 45) :
    Calls Tryz.prog 70 #[.string D] w (RetZE w (parD false D.data.toList).1 (parD false D.data.toList).2) := by
  have HI := hid fun (w1 : World) (b : Bool) (R1 : Option Addr) (c1 : Nat) (P : Nat) (h1 : Mg w1 R1 c1 (limbs P)) (hl : (limbs P).length ≤ 4096) => Rsigned_n R1 c1 P w1 h1 (by omega) b
  have HS := hid fun (w1 : World) (R1 : Option Addr) (c1 P d : Nat) (h1 : Mg w1 R1 c1 (limbs P)) (hl : (limbs P).length ≤ 4096) (hd : d ≤ 9) => (show Calls Tryz.prog 111 #[.slice R1 (limbs P).length c1, .int .u64 10, .int .u64 d] w1 (RetNF w1 (P * 10 + d)) by
    have := Rlonger_fr R1 c1 _ 10 d w1 h1 (by omega) (by omega) (by omega)
    rwa [val_limbs] at this)
  have HZ : Hid (D.size = D.data.toList.length) := Lib.size_eq D
  have HL : Hid (D.toList = D.data.toList) := ByteArray.toList_eq D
  obtain ⟨RR, hRR⟩ : ∃ RR, RR = parD false D.data.toList := ⟨_, rfl⟩
  rw [← hRR]
  have HR := hid hRR
  clear hRR
  by_cases h3 : 0 < D.size
  · have hns1 : ((((D[0]'h3).toNat : Nat) : Int) == 45) = false := by
      rw [beq_eq_false_iff_ne]
      intro h
      exact hns h3 (UInt8.toNat_inj.1 (by show _ = 45; omega))
    clear hns
    by_cases h1 : 4096 < D.size
    · have hR : RR = (0, 4) := by rw [HR.out]; unfold parD; rw [if_pos (by rw [← HZ.out]; exact h1)]
      rw [hR]
      go_enter Tryz.func70, Tryz.ntmps70
      go_wp2_with fail
      refine bodyPost_ret (v := .tuple #[.agg #[.bool false, .slice none 0 0], .int .i64 4]) ?_ rfl ?_
      · simp [results, Tryz.results70, go_sem]
      · exact retZE_zero _ ((Below.refl _ _).alloc (Nat.le_refl _) _)
    · have HR1 : Hid (RR = if D.data.toList = [] ∨ (D.data.toList.head? = some 48 ∧ (false = true ∨ 1 < D.data.toList.length)) then (0, 9) else if ∀ x ∈ D.data.toList, digit x then (sg false (ofd 10 0 (dvals D.data.toList)), 0) else (0, 9)) := by
        unfold Hid; rw [HR.out]; unfold parD; rw [if_neg (by rw [← HZ.out]; exact h1)]
      clear HR
      have hz0 : ((D.size : Int) == 0) = false := by rw [beq_eq_false_iff_ne]; omega
      have h2 : D.data.toList ≠ [] := fun h => by
        have e := HZ.out
        rw [h, List.length_nil] at e
        omega
      have HH : Hid (D.data.toList.head? = some (D[0]'h3)) := by
        unfold Hid
        rw [List.head?_eq_getElem?, List.getElem?_eq_getElem (by rw [← HZ.out]; exact h3)]
        rfl
      by_cases hb0 : (((D[0]'h3).toNat : Int) = 48)
      · have hb1 : (((D[0]'h3).toNat : Int) == 48) = true := by rw [beq_iff_eq]; exact hb0
        have hd0 : D[0]'h3 = 48 := UInt8.toNat_inj.1 (Int.natCast_inj.1 (hb0.trans (show (48 : Int) = ((48 : UInt8).toNat : Int) from rfl)))
        by_cases hb2 : 1 < D.size
        · have hR : RR = (0, 9) := by
            rw [HR1.out, if_pos (.inr ⟨by rw [HH.out, hd0], .inr (by rw [← HZ.out]; exact hb2)⟩)]
          clear hd0
          rw [hR]
          go_enter Tryz.func70, Tryz.ntmps70
          go_wp2_with fail
          refine bodyPost_ret (v := .tuple #[.agg #[.bool false, .slice none 0 0], .int .i64 9]) ?_ rfl ?_
          · simp [results, Tryz.results70, go_sem]
          · exact retZE_zero _ ((Below.refl _ _).alloc (Nat.le_refl _) _)
        · have HR2 : Hid (RR = if ∀ x ∈ D.data.toList, digit x then (sg false (ofd 10 0 (dvals D.data.toList)), 0) else (0, 9)) := by
            unfold Hid
            rw [HR1.out, if_neg]
            rintro (h | ⟨h, h'⟩)
            · exact h2 h
            · rcases h' with h' | h'
              · cases h'
              · exact hb2 (by rw [HZ.out]; exact h')
          clear HR1 HH hd0
          go_enter Tryz.func70, Tryz.ntmps70
          go_wp2_with fail
          go_loopw [5, 6] (fun s5 s6 wr => ∃ (i : Nat) (R : Option Addr) (cc P : Nat), s6 = .int .i64 i ∧ i ≤ D.size ∧ s5 = .slice R (limbs P).length cc ∧ Mg wr R cc (limbs P) ∧ (limbs P).length ≤ i ∧ Below (w.heap.size + 1) (w.alloc (.cells #[.bool false, .slice none 0 0] 24)) wr ∧ Hid (P = ofd 10 0 (dvals (D.data.toList.take i))) ∧ Hid (∀ x ∈ D.data.toList.take i, digit x)) (fun _ s6 _ => D.size - (intOf s6).toNat)
          case atStart => exact ⟨0, none, 0, 0, rfl, Nat.zero_le _, by simp [limbs_zero], mg_nil _, by simp [limbs_zero], by have := Below.refl (w.alloc (.cells #[.bool false, .slice none 0 0] 24)).heap.size (w.alloc (.cells #[.bool false, .slice none 0 0] 24)); simpa using this, rfl, by unfold Hid; simp⟩
          case round =>
            obtain ⟨i, R, cc, P, rfl, hi, rfl, hm, hl, hbl, hP, hok⟩ := hrel
            have hbl0 : Below (w.alloc (.cells #[.bool false, .slice none 0 0] 24)).heap.size (w.alloc (.cells #[.bool false, .slice none 0 0] 24)) wr := by simpa using hbl
            obtain ⟨p1, p2, p3⟩ := box_keep hbl0
            have bw : Below w.heap.size w wr := ((Below.refl _ _).alloc (Nat.le_refl _) _).trans (hbl0.mono (by simp))
            have hsz := hbl.size
            simp at hsz
            by_cases hlt : i < D.size
            · have hget : Hid (D.data.toList.take (i + 1) = D.data.toList.take i ++ [D[i]'hlt]) := by
                unfold Hid
                rw [List.take_succ_eq_append_getElem (by rw [← HZ.out]; exact hlt)]
                rfl
              have hmem : Hid (D[i]'hlt ∈ D.data.toList) := by
                unfold Hid
                have : D[i]'hlt = D.data.toList[i]'(by rw [← HZ.out]; exact hlt) := rfl
                rw [this]
                exact List.getElem_mem _
              by_cases hx : digit (D[i]'hlt)
              · have hd48 : 48 ≤ (D[i]'hlt).toNat := hx.1
                have hd57 : (D[i]'hlt).toNat ≤ 57 := hx.2
                obtain ⟨d, hd⟩ : ∃ d : Nat, (D[i]'hlt).toNat = d + 48 := ⟨(D[i]'hlt).toNat - 48, by omega⟩
                have hdi : ((D[i]'hlt).toNat : Int) - 48 = (d : Int) := by omega
                have hd1 : (48 : Int) ≤ ((D[i]'hlt).toNat : Int) := by omega
                have hd2 : ((D[i]'hlt).toNat : Int) ≤ 57 := by omega
                have hd9 : d ≤ 9 := by omega
                have hP2 : Hid (P * 10 + d = ofd 10 0 (dvals (D.data.toList.take (i + 1)))) := by
                  unfold Hid
                  rw [hget.out]
                  unfold dvals
                  rw [List.map_append, ofd_app]
                  have := hP.out
                  unfold dvals at this
                  rw [← this]
                  show _ = P * 10 + ((D[i]'hlt).toNat - 48)
                  omega
                have hok2 : Hid (∀ y ∈ D.data.toList.take (i + 1), digit y) := by
                  unfold Hid
                  rw [hget.out]
                  intro y hy
                  rcases List.mem_append.1 hy with hy | hy
                  · exact hok.out y hy
                  · rw [List.mem_singleton] at hy; subst hy; exact hx
                clear hget hmem hx hok hP HR2 HL hd hd48 hd57
                have HC := HS.out wr R cc P d hm (by omega) (by omega)
                have hlQ := limbs_len2 (n := P) (m := 10) (p := d) (by omega) (by omega)
                generalize P * 10 + d = Q at *
                rw [← hdi] at HC
                have HC := hid HC
                clear hdi
                go_wp2_with (go_at_call 111; refine HC.out.mono ?_; rintro e w3 ⟨R3, c3, rfl, hr3, h3, hf3⟩)
                go_roundw
                case rel => exact ⟨i + 1, R3, c3, Q, by go_num, hlt, rfl, hr3, by omega, hbl.trans (h3.mono (by omega)), hP2, hok2⟩
                case measure => simp [intOf]; omega
              · have hR : RR = (0, 9) := by rw [HR2.out, if_neg (fun h => hx (h _ hmem.out))]
                have hr : (D[i]'hlt).toNat < 48 ∨ 57 < (D[i]'hlt).toNat := by unfold digit at hx; omega
                have hR := hid hR
                have k0 := p1 0
                have k1 := p1 1
                simp at k0 k1
                clear HR2 hget hmem hok hP HS HI HL hx
                rcases hr with hr | hr
                · have hr2 : ((D[i]'hlt).toNat : Int) < 48 := by omega
                  go_wp2_with fail
                  refine bodyPost_ret (v := .tuple #[.agg #[.bool false, .slice none 0 0], .int .i64 9]) ?_ rfl ?_
                  · simp [results, Tryz.results70, go_sem, k0, k1]
                  · rw [hR.out]
                    exact fin_bad bw _ _ _
                · have hr2 : (48 : Int) ≤ ((D[i]'hlt).toNat : Int) := by omega
                  have hr3 : (57 : Int) < ((D[i]'hlt).toNat : Int) := by omega
                  go_wp2_with fail
                  refine bodyPost_ret (v := .tuple #[.agg #[.bool false, .slice none 0 0], .int .i64 9]) ?_ rfl ?_
                  · simp [results, Tryz.results70, go_sem, k0, k1]
                  · rw [hR.out]
                    exact fin_bad bw _ _ _
            · obtain rfl : i = D.size := by omega
              have hall : ∀ x ∈ D.data.toList, digit x := by have := hok.out; rw [HZ.out, List.take_length] at this; exact this
              have hR : RR = (sg false P, 0) := by
                rw [HR2.out, if_pos hall]
                have := hP.out
                rw [HZ.out, List.take_length] at this
                rw [← this]
              have HCI := hid (HI.out wr false R cc P hm (by omega))
              clear HR2 HS hall hok hP
              generalize sg false P = Z at *
              have HRZ := hid hR
              clear hR
              go_wp2_with (go_at_call 93; refine HCI.out.mono ?_; rintro e w3 ⟨R3, c3, rfl, hr3, h3⟩; obtain ⟨q1, q2, q3⟩ := box_keep (hbl0.trans (h3.mono hbl0.size)))
              have k0 := q1 0
              have k1 := q1 1
              simp at k0 k1
              refine bodyPost_ret (v := .tuple #[.agg #[.bool (decide ((Z) < 0)), .slice R3 (limbs (Int.natAbs (Z))).length c3], .int .i64 0]) ?_ rfl ?_
              · simp [results, Tryz.results70, go_sem, k0, k1]
              · rw [HRZ.out]
                exact fin_ze hr3 (bw.trans (h3.mono bw.size)) (Nat.le_refl _) k0 k1 _ _
      · have hb1 : (((D[0]'h3).toNat : Int) == 48) = false := by rw [beq_eq_false_iff_ne]; exact hb0
        have HR2 : Hid (RR = if ∀ x ∈ D.data.toList, digit x then (sg false (ofd 10 0 (dvals D.data.toList)), 0) else (0, 9)) := by
          unfold Hid
          rw [HR1.out, if_neg]
          rintro (h | ⟨h, h'⟩)
          · exact h2 h
          · rw [HH.out] at h
            injection h with h
            exact hb0 (by rw [h]; rfl)
        clear HR1 HH hb0
        go_enter Tryz.func70, Tryz.ntmps70
        go_wp2_with fail
        go_loopw [5, 6] (fun s5 s6 wr => ∃ (i : Nat) (R : Option Addr) (cc P : Nat), s6 = .int .i64 i ∧ i ≤ D.size ∧ s5 = .slice R (limbs P).length cc ∧ Mg wr R cc (limbs P) ∧ (limbs P).length ≤ i ∧ Below (w.heap.size + 1) (w.alloc (.cells #[.bool false, .slice none 0 0] 24)) wr ∧ Hid (P = ofd 10 0 (dvals (D.data.toList.take i))) ∧ Hid (∀ x ∈ D.data.toList.take i, digit x)) (fun _ s6 _ => D.size - (intOf s6).toNat)
        case atStart => exact ⟨0, none, 0, 0, rfl, Nat.zero_le _, by simp [limbs_zero], mg_nil _, by simp [limbs_zero], by have := Below.refl (w.alloc (.cells #[.bool false, .slice none 0 0] 24)).heap.size (w.alloc (.cells #[.bool false, .slice none 0 0] 24)); simpa using this, rfl, by unfold Hid; simp⟩
        case round =>
          obtain ⟨i, R, cc, P, rfl, hi, rfl, hm, hl, hbl, hP, hok⟩ := hrel
          have hbl0 : Below (w.alloc (.cells #[.bool false, .slice none 0 0] 24)).heap.size (w.alloc (.cells #[.bool false, .slice none 0 0] 24)) wr := by simpa using hbl
          obtain ⟨p1, p2, p3⟩ := box_keep hbl0
          have bw : Below w.heap.size w wr := ((Below.refl _ _).alloc (Nat.le_refl _) _).trans (hbl0.mono (by simp))
          have hsz := hbl.size
          simp at hsz
          by_cases hlt : i < D.size
          · have hget : Hid (D.data.toList.take (i + 1) = D.data.toList.take i ++ [D[i]'hlt]) := by
              unfold Hid
              rw [List.take_succ_eq_append_getElem (by rw [← HZ.out]; exact hlt)]
              rfl
            have hmem : Hid (D[i]'hlt ∈ D.data.toList) := by
              unfold Hid
              have : D[i]'hlt = D.data.toList[i]'(by rw [← HZ.out]; exact hlt) := rfl
              rw [this]
              exact List.getElem_mem _
            by_cases hx : digit (D[i]'hlt)
            · have hd48 : 48 ≤ (D[i]'hlt).toNat := hx.1
              have hd57 : (D[i]'hlt).toNat ≤ 57 := hx.2
              obtain ⟨d, hd⟩ : ∃ d : Nat, (D[i]'hlt).toNat = d + 48 := ⟨(D[i]'hlt).toNat - 48, by omega⟩
              have hdi : ((D[i]'hlt).toNat : Int) - 48 = (d : Int) := by omega
              have hd1 : (48 : Int) ≤ ((D[i]'hlt).toNat : Int) := by omega
              have hd2 : ((D[i]'hlt).toNat : Int) ≤ 57 := by omega
              have hd9 : d ≤ 9 := by omega
              have hP2 : Hid (P * 10 + d = ofd 10 0 (dvals (D.data.toList.take (i + 1)))) := by
                unfold Hid
                rw [hget.out]
                unfold dvals
                rw [List.map_append, ofd_app]
                have := hP.out
                unfold dvals at this
                rw [← this]
                show _ = P * 10 + ((D[i]'hlt).toNat - 48)
                omega
              have hok2 : Hid (∀ y ∈ D.data.toList.take (i + 1), digit y) := by
                unfold Hid
                rw [hget.out]
                intro y hy
                rcases List.mem_append.1 hy with hy | hy
                · exact hok.out y hy
                · rw [List.mem_singleton] at hy; subst hy; exact hx
              clear hget hmem hx hok hP HR2 HL hd hd48 hd57
              have HC := HS.out wr R cc P d hm (by omega) (by omega)
              have hlQ := limbs_len2 (n := P) (m := 10) (p := d) (by omega) (by omega)
              generalize P * 10 + d = Q at *
              rw [← hdi] at HC
              have HC := hid HC
              clear hdi
              go_wp2_with (go_at_call 111; refine HC.out.mono ?_; rintro e w3 ⟨R3, c3, rfl, hr3, h3, hf3⟩)
              go_roundw
              case rel => exact ⟨i + 1, R3, c3, Q, by go_num, hlt, rfl, hr3, by omega, hbl.trans (h3.mono (by omega)), hP2, hok2⟩
              case measure => simp [intOf]; omega
            · have hR : RR = (0, 9) := by rw [HR2.out, if_neg (fun h => hx (h _ hmem.out))]
              have hr : (D[i]'hlt).toNat < 48 ∨ 57 < (D[i]'hlt).toNat := by unfold digit at hx; omega
              have hR := hid hR
              have k0 := p1 0
              have k1 := p1 1
              simp at k0 k1
              clear HR2 hget hmem hok hP HS HI HL hx
              rcases hr with hr | hr
              · have hr2 : ((D[i]'hlt).toNat : Int) < 48 := by omega
                go_wp2_with fail
                refine bodyPost_ret (v := .tuple #[.agg #[.bool false, .slice none 0 0], .int .i64 9]) ?_ rfl ?_
                · simp [results, Tryz.results70, go_sem, k0, k1]
                · rw [hR.out]
                  exact fin_bad bw _ _ _
              · have hr2 : (48 : Int) ≤ ((D[i]'hlt).toNat : Int) := by omega
                have hr3 : (57 : Int) < ((D[i]'hlt).toNat : Int) := by omega
                go_wp2_with fail
                refine bodyPost_ret (v := .tuple #[.agg #[.bool false, .slice none 0 0], .int .i64 9]) ?_ rfl ?_
                · simp [results, Tryz.results70, go_sem, k0, k1]
                · rw [hR.out]
                  exact fin_bad bw _ _ _
          · obtain rfl : i = D.size := by omega
            have hall : ∀ x ∈ D.data.toList, digit x := by have := hok.out; rw [HZ.out, List.take_length] at this; exact this
            have hR : RR = (sg false P, 0) := by
              rw [HR2.out, if_pos hall]
              have := hP.out
              rw [HZ.out, List.take_length] at this
              rw [← this]
            have HCI := hid (HI.out wr false R cc P hm (by omega))
            clear HR2 HS hall hok hP
            generalize sg false P = Z at *
            have HRZ := hid hR
            clear hR
            go_wp2_with (go_at_call 93; refine HCI.out.mono ?_; rintro e w3 ⟨R3, c3, rfl, hr3, h3⟩; obtain ⟨q1, q2, q3⟩ := box_keep (hbl0.trans (h3.mono hbl0.size)))
            have k0 := q1 0
            have k1 := q1 1
            simp at k0 k1
            refine bodyPost_ret (v := .tuple #[.agg #[.bool (decide ((Z) < 0)), .slice R3 (limbs (Int.natAbs (Z))).length c3], .int .i64 0]) ?_ rfl ?_
            · simp [results, Tryz.results70, go_sem, k0, k1]
            · rw [HRZ.out]
              exact fin_ze hr3 (bw.trans (h3.mono bw.size)) (Nat.le_refl _) k0 k1 _ _
  · have hR : RR = (0, 9) := by
      have hz : D.data.toList = [] := List.eq_nil_of_length_eq_zero (by rw [← HZ.out]; omega)
      rw [HR.out]; unfold parD; rw [hz]; simp
    have hz : D.size = 0 := by omega
    clear hns
    rw [hR]
    go_enter Tryz.func70, Tryz.ntmps70
    go_wp2_with fail
    refine bodyPost_ret (v := .tuple #[.agg #[.bool false, .slice none 0 0], .int .i64 9]) ?_ rfl ?_
    · simp [results, Tryz.results70, go_sem]
    · exact retZE_zero _ ((Below.refl _ _).alloc (Nat.le_refl _) _)
set_option maxRecDepth 100000 in
set_option maxHeartbeats 1000000 in
/-- a sign ahead -/
theorem RParse_sign (s D : ByteArray) (w : World) (h0 : 0 < s.size) (hs0 : ((s[0]'h0).toNat : Int) = 45) (hD : D = s.extract 1 s.size) :
    Calls Tryz.prog 70 #[.string s] w (RetZE w (parD true D.data.toList).1 (parD true D.data.toList).2) := by
  have hE : s.extract 1 s.size = D := hD.symm
  clear hD
  have HI := hid fun (w1 : World) (b : Bool) (R1 : Option Addr) (c1 : Nat) (P : Nat) (h1 : Mg w1 R1 c1 (limbs P)) (hl : (limbs P).length ≤ 4096) => Rsigned_n R1 c1 P w1 h1 (by omega) b
  have HS := hid fun (w1 : World) (R1 : Option Addr) (c1 P d : Nat) (h1 : Mg w1 R1 c1 (limbs P)) (hl : (limbs P).length ≤ 4096) (hd : d ≤ 9) => (show Calls Tryz.prog 111 #[.slice R1 (limbs P).length c1, .int .u64 10, .int .u64 d] w1 (RetNF w1 (P * 10 + d)) by
    have := Rlonger_fr R1 c1 _ 10 d w1 h1 (by omega) (by omega) (by omega)
    rwa [val_limbs] at this)
  have HZ : Hid (D.size = D.data.toList.length) := Lib.size_eq D
  have HL : Hid (D.toList = D.data.toList) := ByteArray.toList_eq D
  have hss : s.size ≤ 9223372036854775807 ∨ 9223372036854775807 < s.size := by omega
  obtain ⟨RR, hRR⟩ : ∃ RR, RR = parD true D.data.toList := ⟨_, rfl⟩
  rw [← hRR]
  have HR := hid hRR
  clear hRR
  have hs1 : (((s[0]'h0).toNat : Int) == 45) = true := by rw [beq_iff_eq]; exact hs0
  by_cases h1 : 4096 < D.size
  · have hR : RR = (0, 4) := by rw [HR.out]; unfold parD; rw [if_pos (by rw [← HZ.out]; exact h1)]
    rw [hR]
    go_enter Tryz.func70, Tryz.ntmps70
    go_wp2_with fail
    refine bodyPost_ret (v := .tuple #[.agg #[.bool false, .slice none 0 0], .int .i64 4]) ?_ rfl ?_
    · simp [results, Tryz.results70, go_sem]
    · exact retZE_zero _ ((Below.refl _ _).alloc (Nat.le_refl _) _)
  · have HR1 : Hid (RR = if D.data.toList = [] ∨ (D.data.toList.head? = some 48 ∧ (true = true ∨ 1 < D.data.toList.length)) then (0, 9) else if ∀ x ∈ D.data.toList, digit x then (sg true (ofd 10 0 (dvals D.data.toList)), 0) else (0, 9)) := by
      unfold Hid; rw [HR.out]; unfold parD; rw [if_neg (by rw [← HZ.out]; exact h1)]
    clear HR
    by_cases h3 : 0 < D.size
    · have hz0 : ((D.size : Int) == 0) = false := by rw [beq_eq_false_iff_ne]; omega
      have h2 : D.data.toList ≠ [] := fun h => by
        have e := HZ.out
        rw [h, List.length_nil] at e
        omega
      have HH : Hid (D.data.toList.head? = some (D[0]'h3)) := by
        unfold Hid
        rw [List.head?_eq_getElem?, List.getElem?_eq_getElem (by rw [← HZ.out]; exact h3)]
        rfl
      by_cases hb0 : (((D[0]'h3).toNat : Int) = 48)
      · have hb1 : (((D[0]'h3).toNat : Int) == 48) = true := by rw [beq_iff_eq]; exact hb0
        have hd0 : D[0]'h3 = 48 := UInt8.toNat_inj.1 (Int.natCast_inj.1 (hb0.trans (show (48 : Int) = ((48 : UInt8).toNat : Int) from rfl)))
        have hR : RR = (0, 9) := by
          rw [HR1.out, if_pos (.inr ⟨by rw [HH.out, hd0], .inl rfl⟩)]
        clear hd0
        by_cases hb2 : 1 < D.size
        · rw [hR]
          go_enter Tryz.func70, Tryz.ntmps70
          go_wp2_with fail
          refine bodyPost_ret (v := .tuple #[.agg #[.bool false, .slice none 0 0], .int .i64 9]) ?_ rfl ?_
          · simp [results, Tryz.results70, go_sem]
          · exact retZE_zero _ ((Below.refl _ _).alloc (Nat.le_refl _) _)
        · rw [hR]
          go_enter Tryz.func70, Tryz.ntmps70
          go_wp2_with fail
          refine bodyPost_ret (v := .tuple #[.agg #[.bool false, .slice none 0 0], .int .i64 9]) ?_ rfl ?_
          · simp [results, Tryz.results70, go_sem]
          · exact retZE_zero _ ((Below.refl _ _).alloc (Nat.le_refl _) _)
      · have hb1 : (((D[0]'h3).toNat : Int) == 48) = false := by rw [beq_eq_false_iff_ne]; exact hb0
        have HR2 : Hid (RR = if ∀ x ∈ D.data.toList, digit x then (sg true (ofd 10 0 (dvals D.data.toList)), 0) else (0, 9)) := by
          unfold Hid
          rw [HR1.out, if_neg]
          rintro (h | ⟨h, h'⟩)
          · exact h2 h
          · rw [HH.out] at h
            injection h with h
            exact hb0 (by rw [h]; rfl)
        clear HR1 HH hb0
        go_enter Tryz.func70, Tryz.ntmps70
        go_wp2_with fail
        go_loopw [5, 6] (fun s5 s6 wr => ∃ (i : Nat) (R : Option Addr) (cc P : Nat), s6 = .int .i64 i ∧ i ≤ D.size ∧ s5 = .slice R (limbs P).length cc ∧ Mg wr R cc (limbs P) ∧ (limbs P).length ≤ i ∧ Below (w.heap.size + 1) (w.alloc (.cells #[.bool false, .slice none 0 0] 24)) wr ∧ Hid (P = ofd 10 0 (dvals (D.data.toList.take i))) ∧ Hid (∀ x ∈ D.data.toList.take i, digit x)) (fun _ s6 _ => D.size - (intOf s6).toNat)
        case atStart => exact ⟨0, none, 0, 0, rfl, Nat.zero_le _, by simp [limbs_zero], mg_nil _, by simp [limbs_zero], by have := Below.refl (w.alloc (.cells #[.bool false, .slice none 0 0] 24)).heap.size (w.alloc (.cells #[.bool false, .slice none 0 0] 24)); simpa using this, rfl, by unfold Hid; simp⟩
        case round =>
          obtain ⟨i, R, cc, P, rfl, hi, rfl, hm, hl, hbl, hP, hok⟩ := hrel
          have hbl0 : Below (w.alloc (.cells #[.bool false, .slice none 0 0] 24)).heap.size (w.alloc (.cells #[.bool false, .slice none 0 0] 24)) wr := by simpa using hbl
          obtain ⟨p1, p2, p3⟩ := box_keep hbl0
          have bw : Below w.heap.size w wr := ((Below.refl _ _).alloc (Nat.le_refl _) _).trans (hbl0.mono (by simp))
          have hsz := hbl.size
          simp at hsz
          by_cases hlt : i < D.size
          · have hget : Hid (D.data.toList.take (i + 1) = D.data.toList.take i ++ [D[i]'hlt]) := by
              unfold Hid
              rw [List.take_succ_eq_append_getElem (by rw [← HZ.out]; exact hlt)]
              rfl
            have hmem : Hid (D[i]'hlt ∈ D.data.toList) := by
              unfold Hid
              have : D[i]'hlt = D.data.toList[i]'(by rw [← HZ.out]; exact hlt) := rfl
              rw [this]
              exact List.getElem_mem _
            by_cases hx : digit (D[i]'hlt)
            · have hd48 : 48 ≤ (D[i]'hlt).toNat := hx.1
              have hd57 : (D[i]'hlt).toNat ≤ 57 := hx.2
              obtain ⟨d, hd⟩ : ∃ d : Nat, (D[i]'hlt).toNat = d + 48 := ⟨(D[i]'hlt).toNat - 48, by omega⟩
              have hdi : ((D[i]'hlt).toNat : Int) - 48 = (d : Int) := by omega
              have hd1 : (48 : Int) ≤ ((D[i]'hlt).toNat : Int) := by omega
              have hd2 : ((D[i]'hlt).toNat : Int) ≤ 57 := by omega
              have hd9 : d ≤ 9 := by omega
              have hP2 : Hid (P * 10 + d = ofd 10 0 (dvals (D.data.toList.take (i + 1)))) := by
                unfold Hid
                rw [hget.out]
                unfold dvals
                rw [List.map_append, ofd_app]
                have := hP.out
                unfold dvals at this
                rw [← this]
                show _ = P * 10 + ((D[i]'hlt).toNat - 48)
                omega
              have hok2 : Hid (∀ y ∈ D.data.toList.take (i + 1), digit y) := by
                unfold Hid
                rw [hget.out]
                intro y hy
                rcases List.mem_append.1 hy with hy | hy
                · exact hok.out y hy
                · rw [List.mem_singleton] at hy; subst hy; exact hx
              clear hget hmem hx hok hP HR2 HL hd hd48 hd57
              have HC := HS.out wr R cc P d hm (by omega) (by omega)
              have hlQ := limbs_len2 (n := P) (m := 10) (p := d) (by omega) (by omega)
              generalize P * 10 + d = Q at *
              rw [← hdi] at HC
              have HC := hid HC
              clear hdi
              go_wp2_with (go_at_call 111; refine HC.out.mono ?_; rintro e w3 ⟨R3, c3, rfl, hr3, h3, hf3⟩)
              go_roundw
              case rel => exact ⟨i + 1, R3, c3, Q, by go_num, hlt, rfl, hr3, by omega, hbl.trans (h3.mono (by omega)), hP2, hok2⟩
              case measure => simp [intOf]; omega
            · have hR : RR = (0, 9) := by rw [HR2.out, if_neg (fun h => hx (h _ hmem.out))]
              have hr : (D[i]'hlt).toNat < 48 ∨ 57 < (D[i]'hlt).toNat := by unfold digit at hx; omega
              have hR := hid hR
              have k0 := p1 0
              have k1 := p1 1
              simp at k0 k1
              clear HR2 hget hmem hok hP HS HI HL hx
              rcases hr with hr | hr
              · have hr2 : ((D[i]'hlt).toNat : Int) < 48 := by omega
                go_wp2_with fail
                refine bodyPost_ret (v := .tuple #[.agg #[.bool false, .slice none 0 0], .int .i64 9]) ?_ rfl ?_
                · simp [results, Tryz.results70, go_sem, k0, k1]
                · rw [hR.out]
                  exact fin_bad bw _ _ _
              · have hr2 : (48 : Int) ≤ ((D[i]'hlt).toNat : Int) := by omega
                have hr3 : (57 : Int) < ((D[i]'hlt).toNat : Int) := by omega
                go_wp2_with fail
                refine bodyPost_ret (v := .tuple #[.agg #[.bool false, .slice none 0 0], .int .i64 9]) ?_ rfl ?_
                · simp [results, Tryz.results70, go_sem, k0, k1]
                · rw [hR.out]
                  exact fin_bad bw _ _ _
          · obtain rfl : i = D.size := by omega
            have hall : ∀ x ∈ D.data.toList, digit x := by have := hok.out; rw [HZ.out, List.take_length] at this; exact this
            have hR : RR = (sg true P, 0) := by
              rw [HR2.out, if_pos hall]
              have := hP.out
              rw [HZ.out, List.take_length] at this
              rw [← this]
            have HCI := hid (HI.out wr true R cc P hm (by omega))
            clear HR2 HS hall hok hP
            generalize sg true P = Z at *
            have HRZ := hid hR
            clear hR
            go_wp2_with (go_at_call 93; refine HCI.out.mono ?_; rintro e w3 ⟨R3, c3, rfl, hr3, h3⟩; obtain ⟨q1, q2, q3⟩ := box_keep (hbl0.trans (h3.mono hbl0.size)))
            have k0 := q1 0
            have k1 := q1 1
            simp at k0 k1
            refine bodyPost_ret (v := .tuple #[.agg #[.bool (decide ((Z) < 0)), .slice R3 (limbs (Int.natAbs (Z))).length c3], .int .i64 0]) ?_ rfl ?_
            · simp [results, Tryz.results70, go_sem, k0, k1]
            · rw [HRZ.out]
              exact fin_ze hr3 (bw.trans (h3.mono bw.size)) (Nat.le_refl _) k0 k1 _ _
    · have hR : RR = (0, 9) := by
        have hz : D.data.toList = [] := List.eq_nil_of_length_eq_zero (by rw [← HZ.out]; omega)
        rw [HR1.out, hz]; simp
      have hz : D.size = 0 := by omega
      rw [hR]
      go_enter Tryz.func70, Tryz.ntmps70
      go_wp2_with fail
      refine bodyPost_ret (v := .tuple #[.agg #[.bool false, .slice none 0 0], .int .i64 9]) ?_ rfl ?_
      · simp [results, Tryz.results70, go_sem]
      · exact retZE_zero _ ((Below.refl _ _).alloc (Nat.le_refl _) _)
theorem RParse_any (s : ByteArray) (w : World) :
    Calls Tryz.prog 70 #[.string s] w (RetZE w (parE s.data.toList).1 (parE s.data.toList).2) := by
  have HZ : s.size = s.data.toList.length := Lib.size_eq s
  by_cases h : ∃ h : 0 < s.size, s[0]'h = 45
  · obtain ⟨h0, h45⟩ := h
    have hl : s.data.toList = 45 :: s.data.toList.drop 1 := by
      have hlen : 0 < s.data.toList.length := by rw [← HZ]; exact h0
      rw [← List.drop_zero (l := s.data.toList)]
      conv => lhs; rw [List.drop_eq_getElem_cons hlen]
      congr 1
    have e : parE s.data.toList = parD true (s.data.toList.drop 1) := by
      rw [hl]
      simp [parE, Lib.hasPrefix, Lib.trimPrefix]
    have hD : (s.extract 1 s.size).data.toList = s.data.toList.drop 1 := by
      rw [Lib.extract_data]
      exact List.take_of_length_le (by simp)
    rw [e, ← hD]
    refine RParse_sign s _ w h0 ?_ rfl
    rw [h45]; rfl
  · have e : parE s.data.toList = parD false s.data.toList := by
      cases hs : s.data.toList with
      | nil => rfl
      | cons x r =>
        have h0 : 0 < s.size := by rw [HZ, hs]; simp
        have hx : x ≠ 45 := by
          intro hx
          apply h
          refine ⟨h0, ?_⟩
          have : s[0]'h0 = s.data.toList[0]'(by rw [← HZ]; exact h0) := rfl
          rw [this]
          simp [hs, hx]
        have hp0 : ((45 : UInt8) == x) = false := by rw [beq_eq_false_iff_ne]; exact fun h => hx h.symm
        have hp : Lib.hasPrefix (x :: r) [45] = false := by
          show ((45 : UInt8) == x && List.isPrefixOf [] r) = false
          rw [hp0]; rfl
        simp [parE, Lib.trimPrefix, hp]
    rw [e]
    exact RParse_plain s w (fun h0 h45 => h ⟨h0, h45⟩)
end Go.Proofs.YtfhbigfbeppinaaGreatDoor
/- The reference: the walk of Format. Conditions: none. -/
set_option linter.unusedVariables false
set_option linter.unusedSimpArgs false
namespace Go.Proofs.YtfhbigfbeppinaaGreatDoor
open Go.RowKit Big

def bt (x : UInt8) : Value := .int .u8 (x.toNat : Int)
theorem info8 : (Tryz.prog.info? 5).map (fun i => (i.zero, i.size, i.bytes)) = some (some (.int .u8 0), 1, 1) := by kernel_rfl
theorem ch_toNat {d : Nat} (h : d < 10) : (ch d).toNat = 48 + d := by
  unfold ch
  rw [UInt8.toNat_ofNat']
  omega
set_option maxRecDepth 100000 in
set_option maxHeartbeats 2000000 in
theorem RFormat_ok (x : Int) (A : Option Addr) (c : Nat) (w : World) (ha : Mg w A c (limbs x.natAbs)) (fx : fits x) :
    Calls Tryz.prog 71 #[.agg #[.bool (decide ((x) < 0)), .slice A (limbs (Int.natAbs (x))).length c]] w (RetS w (fmtZ x)) := by
  have HX := hid fun (w1 : World) (h1 : Below w.heap.size w w1) => RValid_t (ha.below h1) fx
  have HD := hid fun (w1 : World) (A1 : Option Addr) (c1 m : Nat) (h1 : Mg w1 A1 c1 (limbs m)) (hl : (limbs m).length ≤ 512) => (show Calls Tryz.prog 112 #[.slice A1 (limbs m).length c1, .int .u64 10] w1 (RetSF w1 (m / 10) (m % 10)) by
    have h := Rshort_fr A1 c1 (limbs m) 10 w1 h1 (by omega) (by omega) (by omega)
    rw [val_limbs] at h
    exact h)
  have hf : (limbs x.natAbs).length ≤ 512 := fx
  have HL := hid (show (digs 10 x.natAbs).length ≤ 16384 from Nat.le_trans (digs_len_l (by omega)) (by omega))
  obtain ⟨RR, hRR⟩ : ∃ RR, fmtZ x = RR := ⟨_, rfl⟩
  rw [hRR]
  have HF0 := hid (fun h : x = 0 => (show RR = [48] by rw [← hRR, h]; decide +kernel))
  have HF := hid (fun h : x.natAbs ≠ 0 => (show RR = if decide (x < 0) = true then 45 :: ((digs 10 x.natAbs).map ch).reverse else ((digs 10 x.natAbs).map ch).reverse by
    rw [← hRR, ← List.map_reverse]
    unfold fmtZ
    rw [dec_digs _ h]
    by_cases hx : x < 0 <;> simp [hx]))
  have hx0 : x.natAbs = 0 → x = 0 := by omega
  clear hRR fx
  generalize hbx : decide (x < 0) = bx at *
  generalize x.natAbs = n at *
  clear hbx
  go_enter Tryz.func71, Tryz.ntmps71
  go_wp2_with fail
  refine (HX.out _ (by repeat (first | assumption | exact Below.refl _ _ | refine Below.alloc ?_ (by simp; try omega) _ | refine Below.drew ?_ | refine below_drewN ?_ _))).mono ?_
  rintro e w1 ⟨rfl, h1⟩
  obtain ⟨p1, p2, p3⟩ := box_keep h1
  have b1 : Below w.heap.size w w1 := Below.trans (b := _) (by repeat (first | assumption | exact Below.refl _ _ | refine Below.alloc ?_ (by simp; try omega) _ | refine Below.drew ?_ | refine below_drewN ?_ _)) (h1.mono (by simp))
  have ha1 := ha.below b1
  clear HX ha
  go_wp2_with fail
  go_loopg [3, 4] n (fun g s3 s4 wr => ∃ (v : Value) (B : List UInt8) (R : Option Addr) (cc m : Nat), s3 = v ∧ wr.ownsRow w1.heap.size 5 1 v B.length (B.map bt) ∧ s4 = .slice R (limbs m).length cc ∧ Mg wr R cc (limbs m) ∧ (limbs m).length ≤ 512 ∧ Below w1.heap.size w1 wr ∧ Hid (g = m) ∧ Hid ((digs 10 n).map ch = B ++ (digs 10 m).map ch) ∧ Hid (0 < (limbs m).length → ∀ p, R = some p → some p.block ≠ v.ownBlock))
  case atStart => exact ⟨_, [], A, c, n, rfl, World.ownsRow_nil _ _ _ _, rfl, ha1, hf, Below.refl _ _, rfl, rfl, fun _ p _ => by simp [Value.ownBlock]⟩
  case round =>
    clear ha1
    obtain ⟨v, B, R, cc, m, rfl, hown, rfl, hr, hl, hbl, hg, hd, hne⟩ := hrel
    obtain ⟨Av, cv, rfl, hcv, hcm, hrd⟩ := own_rd hown
    obtain ⟨q1, q2, q3⟩ := box_keep (h1.trans (hbl.mono h1.size))
    have k0 := q1 0
    simp at k0
    have hb2 := b1.trans (hbl.mono b1.size)
    have hsz1 := hbl.size
    have hB : B.length ≤ 16384 := by have := congrArg List.length hd.out; have h2 := HL.out; simp at this; omega
    by_cases hm : m = 0
    · subst hm
      rw [limbs_zero] at *
      simp only [List.length_nil]
      have hLn : (digs 10 n).map ch = B := by have := hd.out; rw [digs_zero, List.map_nil, List.append_nil] at this; exact this
      rw [hLn] at HF
      have HBn := hid (congrArg List.length hLn)
      clear hr hne hg hd HD hLn
      obtain ⟨wo, rfl⟩ : ∃ wo : World, wo = wr := ⟨_, rfl⟩
      by_cases hB0 : B.length = 0
      · have hn0 : n = 0 := by
          have := HBn.out
          rcases Nat.eq_zero_or_pos n with h | h
          · exact h
          · have := digs_ne (b := 10) (n := n) (by omega) (by omega)
            rw [List.length_map, hB0] at *
            exact absurd (List.eq_nil_of_length_eq_zero (by assumption)) this
        have hR := hid (HF0.out (hx0 hn0))
        rw [hB0]
        clear HF HF0 hrd hown
        go_wp2_with fail
        go_ret
        rw [hR.out]
        exact ⟨rfl, hb2⟩
      · have hn0 : n ≠ 0 := by
          rintro rfl
          have := HBn.out
          rw [digs_zero] at this
          exact hB0 this.symm
        have hl0 : ((B.length : Int) == 0) = false := by rw [beq_eq_false_iff_ne]; omega
        have hR := HF.out hn0
        clear HF HF0 HBn
        cases bx
        · have HRR := hid (show RR = B.reverse by rw [hR, if_neg (by decide)])
          clear hR
          go_wp2_with fail
          go_loopw [7, 8] (fun s7 s8 wq => ∃ (k : Nat) (v : Value) (O : List UInt8), k ≤ B.length ∧ s8 = .int .i64 ((k : Int) - 1) ∧ s7 = v ∧ wq.ownsRow wo.heap.size 5 1 v O.length (O.map bt) ∧ Below wo.heap.size wo wq ∧ Hid (O = (B.drop k).reverse)) (fun _ s8 _ => (intOf s8 + 1).toNat)
          case atStart => exact ⟨B.length, _, [], Nat.le_refl _, by first | rfl | (simp; done), rfl, World.ownsRow_nil _ _ _ _, Below.refl _ _, by unfold Hid; simp⟩
          case round =>
            obtain ⟨k, v, O, hk, rfl, rfl, howo, hbo, hO⟩ := hrel
            have hOl : O.length = B.length - k := by rw [hO.out]; simp
            have hsz2 := hbo.size
            by_cases hk0 : 0 < k
            · have hk1 : k - 1 < B.length := by omega
              obtain ⟨bk, o, rfl, hbk, hc⟩ := (hrd).at_ hk1
              have c1 := (hbo.cell (p := ⟨bk, o + (k - 1), none⟩) hbk).trans (hc (k - 1) hk1)
              unfold bt at c1
              clear hc
              have hO2 := hid (rev_drop hk0 hk1)
              rw [← hO.out] at hO2
              generalize (B)[k - 1] = x at *
              go_wp2_with (at_builtin; refine wpList_app rfl (.tmp 44) (.tmp 49) 94 rfl 5 (.int .u8 0) 1 Tryz.underlying94 info8 rfl wo.heap.size bt (fun _ => rfl) _ O rfl (own_below howo ((Below.refl _ _).alloc (Nat.le_refl _) (.cells #[.int .u8 (x.toNat : Int)] 5))) _ 1 [x] rfl (rd_one bt _ x 5) (by simp; omega) (by simp; omega) (by simp; omega) ?_; intro v5 w5 hown5 hgr hwh)
              have hb5 := below_app (own_below howo ((Below.refl _ _).alloc (Nat.le_refl _) (.cells #[.int .u8 (x.toNat : Int)] 5))) hgr (by simp; omega)
              go_roundw
              case rel => exact ⟨k - 1, v5, O ++ [x], by omega, by go_num, rfl, hown5, (hbo.alloc hbo.size _).trans hb5, hO2.out.symm⟩
              case measure => simp [intOf]; omega
            · obtain rfl : k = 0 := by omega
              obtain ⟨Ao, co, rfl, hco, hcm2, hrdo⟩ := own_rd howo
              have hOr : O = (B).reverse := by rw [hO.out]; simp
              have hO0 : 0 < O.length := by omega
              obtain ⟨bg, og, rfl, hbg, hcg⟩ := hrdo.at_ hO0
              have hcv := run_convert_bytes_back (P := Tryz.prog) wr 94 9 5 ⟨bg, og, none⟩ co O Tryz.underlying94 Tryz.underlying5 Tryz.underlying9 (fun j hj => by rw [show (⟨bg, og, none⟩ : Addr).add j = ⟨bg, og + j, none⟩ by unfold Addr.add; split <;> simp_all]; exact hcg j hj)
              have HOr := hid hOr
              clear hcg hrdo howo hOr hOl hO0
              go_wp2_with fail
              go_ret
              exact ⟨by rw [HRR.out, HOr.out]; rfl, hb2.trans (hbo.mono hb2.size)⟩
        · have HRR := hid (show RR = (B ++ [45]).reverse by rw [hR, if_pos rfl]; simp)
          clear hR
          have hown3 := own_below hown ((Below.refl _ _).alloc (Nat.le_refl _) (.cells #[.int .u8 45] 5))
          go_wp2_with (at_builtin; refine wpList_app rfl (.tmp 34) (.tmp 35) 94 rfl 5 (.int .u8 0) 1 Tryz.underlying94 info8 rfl w1.heap.size bt (fun _ => rfl) _ B rfl hown3 _ 1 [45] rfl (by exact rd_one bt wo 45 5) (by simp; omega) (by simp; omega) (by simp; omega) ?_; intro v9 w9 hown9 hgr9 hwh9; have hB9 : (B ++ [45]).length ≤ 16385 := (by simp; omega); have hB9p : 0 < (B ++ [45]).length := (by simp); obtain ⟨A9, c9, rfl, hc9, hm9, hrd9⟩ := own_rd hown9; generalize B ++ [45] = B9 at *)
          have hb9 := (hbl.alloc hbl.size _).trans (below_app hown3 hgr9 (by simp; omega))
          have hb2 := b1.trans (hb9.mono b1.size)
          go_loopw [7, 8] (fun s7 s8 wq => ∃ (k : Nat) (v : Value) (O : List UInt8), k ≤ B9.length ∧ s8 = .int .i64 ((k : Int) - 1) ∧ s7 = v ∧ wq.ownsRow w9.heap.size 5 1 v O.length (O.map bt) ∧ Below w9.heap.size w9 wq ∧ Hid (O = (B9.drop k).reverse)) (fun _ s8 _ => (intOf s8 + 1).toNat)
          case atStart => exact ⟨B9.length, _, [], Nat.le_refl _, by first | rfl | (simp; done), rfl, World.ownsRow_nil _ _ _ _, Below.refl _ _, by unfold Hid; simp⟩
          case round =>
            obtain ⟨k, v, O, hk, rfl, rfl, howo, hbo, hO⟩ := hrel
            have hOl : O.length = B9.length - k := by rw [hO.out]; simp
            have hsz2 := hbo.size
            by_cases hk0 : 0 < k
            · have hk1 : k - 1 < B9.length := by omega
              obtain ⟨bk, o, rfl, hbk, hc⟩ := (hrd9).at_ hk1
              have c1 := (hbo.cell (p := ⟨bk, o + (k - 1), none⟩) hbk).trans (hc (k - 1) hk1)
              unfold bt at c1
              clear hc
              have hO2 := hid (rev_drop hk0 hk1)
              rw [← hO.out] at hO2
              generalize (B9)[k - 1] = x at *
              go_wp2_with (at_builtin; refine wpList_app rfl (.tmp 44) (.tmp 49) 94 rfl 5 (.int .u8 0) 1 Tryz.underlying94 info8 rfl w9.heap.size bt (fun _ => rfl) _ O rfl (own_below howo ((Below.refl _ _).alloc (Nat.le_refl _) (.cells #[.int .u8 (x.toNat : Int)] 5))) _ 1 [x] rfl (rd_one bt _ x 5) (by simp; omega) (by simp; omega) (by simp; omega) ?_; intro v5 w5 hown5 hgr hwh)
              have hb5 := below_app (own_below howo ((Below.refl _ _).alloc (Nat.le_refl _) (.cells #[.int .u8 (x.toNat : Int)] 5))) hgr (by simp; omega)
              go_roundw
              case rel => exact ⟨k - 1, v5, O ++ [x], by omega, by go_num, rfl, hown5, (hbo.alloc hbo.size _).trans hb5, hO2.out.symm⟩
              case measure => simp [intOf]; omega
            · obtain rfl : k = 0 := by omega
              obtain ⟨Ao, co, rfl, hco, hcm2, hrdo⟩ := own_rd howo
              have hOr : O = (B9).reverse := by rw [hO.out]; simp
              have hO0 : 0 < O.length := by omega
              obtain ⟨bg, og, rfl, hbg, hcg⟩ := hrdo.at_ hO0
              have hcv := run_convert_bytes_back (P := Tryz.prog) wr 94 9 5 ⟨bg, og, none⟩ co O Tryz.underlying94 Tryz.underlying5 Tryz.underlying9 (fun j hj => by rw [show (⟨bg, og, none⟩ : Addr).add j = ⟨bg, og + j, none⟩ by unfold Addr.add; split <;> simp_all]; exact hcg j hj)
              have HOr := hid hOr
              clear hcg hrdo howo hOr hOl hO0
              go_wp2_with fail
              go_ret
              exact ⟨by rw [HRR.out, HOr.out]; rfl, hb2.trans (hbo.mono hb2.size)⟩
    · have hl1 : 0 < (limbs m).length := by rw [limbs_pos hm]; simp
      have hdm := digs_pos (b := 10) (by omega) hm
      have HC := HD.out wr R cc m hr hl
      have hmod := Nat.mod_lt m (show 0 < 10 by omega)
      have hdl := Nat.div_le_self m 10
      have hdlt := Nat.div_lt_self (show 0 < m by omega) (show 1 < 10 by omega)
      have hql := Nat.le_trans (limbs_mono hdl) hl
      have HH := hid hdm
      clear hdm HD
      generalize m % 10 = r at *
      generalize m / 10 = q at *
      have HC := hid HC
      obtain ⟨y, hy⟩ : ∃ y, ch r = y := ⟨_, rfl⟩
      have hy1 : (48 : Int) + (r : Int) = ((y.toNat : Nat) : Int) := by rw [← hy, ch_toNat hmod]; simp
      have hy2 : y.toNat < 256 := by rw [← hy, ch_toNat hmod]; omega
      have HY := hid hy
      clear hy
      go_wp2_with (first | (go_at_call 112; refine HC.out.mono ?_; rintro e w3 ⟨A3, c3, rfl, hr3, h3, hf3⟩; have hown3 := own_below (own_below hown h3) ((Below.refl _ _).alloc (Nat.le_refl _) (.cells #[.int .u8 (y.toNat : Int)] 5)); have hsz3 := h3.size) | (at_builtin; refine wpList_app rfl (.tmp 22) (.tmp 26) 94 rfl 5 (.int .u8 0) 1 Tryz.underlying94 info8 rfl w1.heap.size bt (fun _ => rfl) _ B rfl hown3 _ 1 [y] rfl (rd_one bt w3 y 5) (by simp; omega) (by simp; omega) (by simp; omega) ?_; intro v5 w5 hown5 hgr hwh))
      have hb5 := below_app hown3 hgr (by simp; omega)
      go_roundg q
      case rel => exact ⟨v5, B ++ [y], A3, c3, q, rfl, hown5, rfl, (hr3.below ((Below.refl _ _).alloc (Nat.le_refl _) _)).grown hgr (fun _ p hp => own_ne hown (hf3.out p hp)), hql, (hbl.trans ((h3.mono hbl.size).alloc (by omega) _)).trans hb5, rfl, by unfold Hid; rw [hd.out, HH.out, List.map_cons, HY.out]; simp, fun hpos p hp => by
        have hlt := hr3.far hpos p hp
        rcases hwh with h | h
        · rw [h]; exact own_ne hown (hf3.out p hp)
        · rw [h]; simp; omega⟩
      case measure => rw [hg.out]; exact hdlt
end Go.Proofs.YtfhbigfbeppinaaGreatDoor
/- The fractions' reference: walks of Format and Parse. Conditions: none. -/
set_option linter.unusedVariables false
set_option linter.unusedSimpArgs false
namespace Go.Proofs.YtfhbigfbeppinaaGreatDoor
open Go.RowKit Big

theorem RFormat_v {x : Int} {b : Bool} {n : Nat} {L : List Nat} {A : Option Addr} {c : Nat} {w : World} (I : Iz x b n L) (ha : Mg w A c L) (fx : fits x) :
    Calls Tryz.prog 71 #[.agg #[.bool b, .slice A n c]] w (RetS w (fmtZ x)) := by
  obtain ⟨rfl, rfl, rfl⟩ := I
  exact RFormat_ok x A c w ha fx
set_option maxRecDepth 100000 in
set_option maxHeartbeats 4000000 in
theorem QFormat_any {na nb : Bool} {xs ys : List Nat} {A B : Option Addr} {ca cb : Nat} {w : World} (ma : Mg w A ca xs) (mb : Mg w B cb ys) :
    Calls Tryz.prog 31 #[.agg #[.bool na, .slice A xs.length ca, .bool nb, .slice B ys.length cb]] w (RetS w (fmtR na xs nb ys)) := by
  have HX := hid fun (w1 : World) (h : Below w.heap.size w w1) => Qvalid_any (na := na) (nb := nb) (w := w1) (ma.below h) (mb.below h)
  cases v1 : fvB na xs nb ys
  · have hr_ : fmtR na xs nb ys = [] := by unfold fmtR; rw [v1]; rfl
    rw [hr_]
    rw [v1] at HX
    clear hr_ v1 ma mb
    generalize xs.length = ka at *
    generalize ys.length = la at *
    go_enter Tryz.func31, Tryz.ntmps31
    go_wp2_with fail
    refine enterF (P := fun u => Calls _ _ _ u _) ?_
    intro u HB q0 q1 q2 q3 z1 hsz
    clear hsz
    have f_z1 := z1.fr
    have lt_q0 := cell_lt q0
    refine (HX.out _ HB).mono ?_
    rintro e w1 ⟨rfl, h1⟩
    have hv_ : Below u.heap.size u w1 := Below.trans (b := _) (by repeat (first | assumption | exact Below.refl _ _ | refine Below.alloc ?_ (by simp; try omega) _ | refine Below.drew ?_ | refine below_drewN ?_ _)) (h1.mono (by simp; try omega))
    replace q0 := keep_cell hv_ q0
    replace q1 := keep_cell hv_ q1
    replace q2 := keep_cell hv_ q2
    replace q3 := keep_cell hv_ q3
    have lt_q0 := cell_lt q0
    have lt_q1 := cell_lt q1
    have lt_q2 := cell_lt q2
    have lt_q3 := cell_lt q3
    replace z1 := z1.below hv_
    replace f_z1 := z1.fr
    replace HB := HB.trans (hv_.mono HB.size)
    clear hv_
    go_wp2
    go_ret
    exact ⟨rfl, HB⟩
  · rw [v1] at HX
    obtain ⟨rfl, p1, p2, p3, p4, p5, p6⟩ := fvB_ok ma.ok mb.ok v1
    have hr_ : fmtR na xs false ys = fmtF (sg na (val xs), val ys) := by unfold fmtR; rw [v1]; rfl
    rw [hr_]
    have IF : Hid (Fz (sg na (val xs), val ys) na xs.length xs ys.length ys) := ⟨p1, by rw [natAbs_sg]; exact p2, rfl, p3, rfl⟩
    generalize (sg na (val xs), val ys) = f at *
    clear hr_ v1 p1 p2 p3 p4
    generalize xs.length = ka at *
    generalize ys.length = la at *
    have HF1 := hid fun (w1 : World) (h : Below w.heap.size w w1) => RFormat_v (w := w1) IF.out.num (ma.below h) (by unfold fits; rw [IF.out.n.len]; exact p5)
    have HF2 := hid fun (w1 : World) (h : Below w.heap.size w w1) => RFormat_v (w := w1) IF.out.den (mb.below h) (by rw [fits_nat, IF.out.d.len]; exact p6)
    have HO := hid fun (w1 : World) (h : Below w.heap.size w w1) => Qone_any (w := w1) (mb.below h) IF.out.hl _ rfl
    have hone : ys = [1] ↔ f.2 = 1 := by
      rw [IF.out.hy]
      constructor
      · intro h
        have := congrArg val h
        rw [val_limbs] at this
        rw [this]; rfl
      · intro h; rw [h, limbs_one]
    by_cases h1 : f.2 = 1
    · have hs : fmtF f = fmtZ f.1 := by unfold fmtF; rw [if_pos h1]
      rw [hs]
      rw [decide_eq_true (hone.2 h1)] at HO
      clear hs h1 ma mb IF hone HF2
      generalize fmtZ f.1 = l1 at *
      go_enter Tryz.func31, Tryz.ntmps31
      go_wp2_with fail
      refine enterF (P := fun u => Calls _ _ _ u _) ?_
      intro u HB q0 q1 q2 q3 z1 hsz
      clear hsz
      have f_z1 := z1.fr
      have lt_q0 := cell_lt q0
      refine (HX.out _ HB).mono ?_
      rintro e w1 ⟨rfl, h1⟩
      have hv_ : Below u.heap.size u w1 := Below.trans (b := _) (by repeat (first | assumption | exact Below.refl _ _ | refine Below.alloc ?_ (by simp; try omega) _ | refine Below.drew ?_ | refine below_drewN ?_ _)) (h1.mono (by simp; try omega))
      replace q0 := keep_cell hv_ q0
      replace q1 := keep_cell hv_ q1
      replace q2 := keep_cell hv_ q2
      replace q3 := keep_cell hv_ q3
      have lt_q0 := cell_lt q0
      have lt_q1 := cell_lt q1
      have lt_q2 := cell_lt q2
      have lt_q3 := cell_lt q3
      replace z1 := z1.below hv_
      replace f_z1 := z1.fr
      replace HB := HB.trans (hv_.mono HB.size)
      clear hv_
      go_wp2_with fail
      refine (HO.out _ HB).mono ?_
      rintro e w2 ⟨rfl, hw_⟩
      obtain rfl := hw_
      go_wp2_with fail
      refine (HF1.out _ HB).mono ?_
      rintro e w3 ⟨rfl, h3⟩
      go_wp2
      go_ret
      exact ⟨rfl, bel_step HB h3⟩
    · have hs : fmtF f = fmtZ f.1 ++ 47 :: fmtZ (f.2 : Int) := by unfold fmtF; rw [if_neg h1]
      rw [hs]
      rw [decide_eq_false (fun h => h1 (hone.1 h))] at HO
      have hl1 : (fmtZ f.1).length ≤ 20000 := by have := fmtZ_len f.1; rw [IF.out.n.len] at this; omega
      have hl2 : (fmtZ (f.2 : Int)).length ≤ 20000 := by have := fmtZ_len (f.2 : Int); rw [Int.natAbs_natCast, IF.out.d.len] at this; omega
      clear hs h1 ma mb IF hone
      generalize fmtZ f.1 = l1 at *
      generalize fmtZ (f.2 : Int) = l2 at *
      have hz1 : (⟨l1.toArray⟩ : ByteArray).size ≤ 20000 := by rw [show (⟨l1.toArray⟩ : ByteArray).size = l1.length by simp [ByteArray.size]]; exact hl1
      have hz2 : (⟨l2.toArray⟩ : ByteArray).size ≤ 20000 := by rw [show (⟨l2.toArray⟩ : ByteArray).size = l2.length by simp [ByteArray.size]]; exact hl2
      have hn1 : ¬ 9223372036854775807 < (⟨l1.toArray⟩ : ByteArray).size + 1 := by omega
      have hn2 : ¬ 9223372036854775807 < (⟨l1.toArray⟩ : ByteArray).size + 1 + (⟨l2.toArray⟩ : ByteArray).size := by omega
      have hcat := hid (show (⟨l1.toArray⟩ : ByteArray) ++ ⟨#[47]⟩ ++ ⟨l2.toArray⟩ = ⟨(l1 ++ 47 :: l2).toArray⟩ by
        rw [show (⟨#[47]⟩ : ByteArray) = ⟨[47].toArray⟩ by rfl, bytes_cat, bytes_cat, List.append_assoc]; rfl)
      generalize hD1 : (⟨l1.toArray⟩ : ByteArray) = D1 at *
      generalize hD2 : (⟨l2.toArray⟩ : ByteArray) = D2 at *
      generalize hD3 : (⟨(l1 ++ 47 :: l2).toArray⟩ : ByteArray) = D3 at *
      unfold RetS at HF1 HF2
      simp only [hD1, hD2] at HF1 HF2
      have hD := hid hD3
      clear hD1 hD2 hD3 hl1 hl2
      go_enter Tryz.func31, Tryz.ntmps31
      go_wp2_with fail
      refine enterF (P := fun u => Calls _ _ _ u _) ?_
      intro u HB q0 q1 q2 q3 z1 hsz
      clear hsz
      have f_z1 := z1.fr
      have lt_q0 := cell_lt q0
      refine (HX.out _ HB).mono ?_
      rintro e w1 ⟨rfl, h1⟩
      have hv_ : Below u.heap.size u w1 := Below.trans (b := _) (by repeat (first | assumption | exact Below.refl _ _ | refine Below.alloc ?_ (by simp; try omega) _ | refine Below.drew ?_ | refine below_drewN ?_ _)) (h1.mono (by simp; try omega))
      replace q0 := keep_cell hv_ q0
      replace q1 := keep_cell hv_ q1
      replace q2 := keep_cell hv_ q2
      replace q3 := keep_cell hv_ q3
      have lt_q0 := cell_lt q0
      have lt_q1 := cell_lt q1
      have lt_q2 := cell_lt q2
      have lt_q3 := cell_lt q3
      replace z1 := z1.below hv_
      replace f_z1 := z1.fr
      replace HB := HB.trans (hv_.mono HB.size)
      clear hv_
      go_wp2_with fail
      refine (HO.out _ HB).mono ?_
      rintro e w2 ⟨rfl, hw_⟩
      obtain rfl := hw_
      go_wp2_with fail
      go_region_held3 (fun w' => w'.cell? ⟨w.heap.size, 0, none⟩ = some (.bool na) ∧ w'.cell? ⟨w.heap.size, 1, none⟩ = some (.slice A ka ca) ∧ w'.cell? ⟨w.heap.size, 2, none⟩ = some (.bool false) ∧ w'.cell? ⟨w.heap.size, 3, none⟩ = some (.slice B la cb)) (first | ((try dsimp only); repeat' (first | with_reducible assumption | apply And.intro | (with_reducible refine keep_alloc ?_) | (with_reducible refine keep_drew ?_) | (with_reducible refine keep_set (by first | omega | (simp only [World.size_alloc, World.size_setCell, World.size_drew]; done) | (simp only [World.size_alloc, World.size_setCell, World.size_drew]; omega)) ?_) | (with_reducible refine keep_cell (W := w1) ?_ ?_) | fail))) (first | (go_at_call 71; (with_reducible refine (HF1.out _ (bel_step HB (by repeat' (first | with_reducible assumption | exact Below.refl _ _ | (refine Below.alloc ?_ (by first | omega | (simp only [World.size_alloc, World.size_setCell, World.size_drew]; done) | (simp only [World.size_alloc, World.size_setCell, World.size_drew]; omega)) _) | (refine Below.drew ?_) | (refine below_drewN ?_ _) | (refine Below.setCell ?_ (by first | omega | (simp only [World.size_alloc, World.size_setCell, World.size_drew]; done) | (simp only [World.size_alloc, World.size_setCell, World.size_drew]; omega)) _))))).mono ?_); rintro e y1 ⟨rfl, hq_⟩; have qy1 : Below w1.heap.size w1 y1 := bel_step (by repeat' (first | with_reducible assumption | exact Below.refl _ _ | (refine Below.alloc ?_ (by first | omega | (simp only [World.size_alloc, World.size_setCell, World.size_drew]; done) | (simp only [World.size_alloc, World.size_setCell, World.size_drew]; omega)) _) | (refine Below.drew ?_) | (refine below_drewN ?_ _) | (refine Below.setCell ?_ (by first | omega | (simp only [World.size_alloc, World.size_setCell, World.size_drew]; done) | (simp only [World.size_alloc, World.size_setCell, World.size_drew]; omega)) _))) hq_) | (go_at_call 71; (with_reducible refine (HF2.out _ (bel_step HB (by repeat' (first | with_reducible assumption | exact Below.refl _ _ | (refine Below.alloc ?_ (by first | omega | (simp only [World.size_alloc, World.size_setCell, World.size_drew]; done) | (simp only [World.size_alloc, World.size_setCell, World.size_drew]; omega)) _) | (refine Below.drew ?_) | (refine below_drewN ?_ _) | (refine Below.setCell ?_ (by first | omega | (simp only [World.size_alloc, World.size_setCell, World.size_drew]; done) | (simp only [World.size_alloc, World.size_setCell, World.size_drew]; omega)) _))))).mono ?_); rintro e y2 ⟨rfl, hq_⟩; have qy2 : Below w1.heap.size w1 y2 := bel_step (by repeat' (first | with_reducible assumption | exact Below.refl _ _ | (refine Below.alloc ?_ (by first | omega | (simp only [World.size_alloc, World.size_setCell, World.size_drew]; done) | (simp only [World.size_alloc, World.size_setCell, World.size_drew]; omega)) _) | (refine Below.drew ?_) | (refine below_drewN ?_ _) | (refine Below.setCell ?_ (by first | omega | (simp only [World.size_alloc, World.size_setCell, World.size_drew]; done) | (simp only [World.size_alloc, World.size_setCell, World.size_drew]; omega)) _))) hq_))
      all_goals
        go_wp2_with fail
        go_ret
        exact ⟨by rw [hcat.out, hD.out]; rfl, HB.trans (qy2.mono HB.size)⟩
theorem QNew_z {x y : Int} {bx by_ : Bool} {kx ky : Nat} {Lx Ly : List Nat} {R Q : Option Addr} {c d : Nat} {w1 : World} (IX : Iz x bx kx Lx) (IY : Iz y by_ ky Ly) (fx : fits x) (fy : fits y) {p : Int × Nat} {err : Int} (hq : newE x y = (p, err)) {bq : Bool} {kq lq : Nat} {Xq Yq : List Nat} (IQ : Fz p bq kq Xq lq Yq) (mx : Mg w1 R c Lx) (my : Mg w1 Q d Ly) :
    Calls Tryz.prog 18 #[.agg #[.bool bx, .slice R kx c], .agg #[.bool by_, .slice Q ky d]] w1 (GF w1 bq kq Xq lq Yq err) := by
  obtain ⟨rfl, rfl, rfl⟩ := IX
  obtain ⟨rfl, rfl, rfl⟩ := IY
  have h := QNew_any (w := w1) (na := decide (x < 0)) (nb := decide (y < 0)) mx my
  rw [newR_int x y fx fy, hq] at h
  exact h.mono fun e w' h => RetFE.g h IQ
set_option maxRecDepth 100000 in
set_option maxHeartbeats 8000000 in
theorem QParse_any (s : ByteArray) (w : World) (hs : s.size < 4294967281) :
    Calls Tryz.prog 30 #[.string s] w (RetFE w (parF s.data.toList)) := by
  have HZ := hid (Lib.size_eq s)
  have hss : s.size ≤ 9223372036854775807 := by omega
  obtain ⟨RR, hRR⟩ : ∃ RR, RR = parF s.data.toList := ⟨_, rfl⟩
  rw [← hRR]
  have HR := hid hRR
  clear hRR
  have HI1 := hid fun (w1 : World) => RFromInt_ok 1 w1 (by omega) (by omega)
  obtain ⟨bo, no, Lo, Io⟩ := iz 1
  replace HI1 := hid fun (w1 : World) => (HI1.out w1).mono fun e w' h => RetZ.g h Io.out
  go_enter Tryz.func30, Tryz.ntmps30
  go_wp2_with fail
  refine enterF (P := fun u => Code.wp _ _ _ _ u) ?_
  intro u HB q0 q1 q2 q3 z1 hsz
  clear hsz
  have f_z1 := z1.fr
  have lt_q0 := cell_lt q0
  go_loopw [4] (fun s4 wr => ∃ k : Nat, Hid (k ≤ at47 s.data.toList) ∧ k ≤ s.size ∧ s4 = .int .i64 k ∧ wr = u) (fun s4 _ => s.size - (intOf s4).toNat)
  case atStart => exact ⟨0, Nat.zero_le _, Nat.zero_le _, rfl, by first | rfl | trivial⟩
  case round =>
    obtain ⟨k, hk, hk2, rfl, hwu⟩ := hrel
    obtain rfl := hwu.symm
    obtain ⟨S1, hS1⟩ : ∃ S, s.extract 0 k = S := ⟨_, rfl⟩
    have eS1 : S1.data.toList = s.data.toList.take k := by rw [← hS1, Lib.extract_data]; simp
    have H1 := hid fun (w1 : World) => RParse_any S1 w1
    have fp1 := hid (parE_fits S1.data.toList)
    rw [eS1] at H1 fp1
    clear eS1
    by_cases h1 : k < s.size
    · have hk1 : k < s.data.toList.length := by rw [← HZ.out]; exact h1
      by_cases h2 : ((s[k]'h1).toNat : Int) = 47
      · have hb : (((s[k]'h1).toNat : Int) != 47) = false := by rw [bne_eq_false_iff_eq]; exact h2
        have ek : at47 s.data.toList = k := at47_stop hk.out hk1 (UInt8.toNat_inj.1 (Int.natCast_inj.1 (h2.trans (show (47 : Int) = ((47 : UInt8).toNat : Int) from rfl))))
        have hR := HR.out
        unfold parF at hR
        rw [ek] at hR
        rw [if_neg (show ¬ ¬ k < s.data.toList.length by omega)] at hR
        clear HR ek hk hk1
        generalize (parE (s.data.toList.take k)).1 = z1_ at *
        generalize (parE (s.data.toList.take k)).2 = err1 at *
        obtain ⟨b1, n1, L1, I1⟩ := iz z1_
        replace H1 := hid fun (w1 : World) => (H1.out w1).mono fun e w' h => h.g I1.out
        by_cases he1 : err1 = 0
        · subst he1
          rw [if_neg (by simp)] at hR
          obtain ⟨j, hj⟩ : ∃ j, k + 1 = j := ⟨_, rfl⟩
          have hkj : (k : Int) + 1 = (j : Int) := by omega
          rw [hj] at hR
          have hj2 : j ≤ s.size := by omega
          obtain ⟨S2, hS2⟩ : ∃ S, s.extract j s.size = S := ⟨_, rfl⟩
          have eS2 : S2.data.toList = s.data.toList.drop j := by rw [← hS2, Lib.extract_data]; exact List.take_of_length_le (by simp)
          have H2 := hid fun (w1 : World) => RParse_any S2 w1
          have fp2 := hid (parE_fits S2.data.toList)
          rw [eS2] at H2 fp2
          clear eS2
          by_cases h3 : j < s.size
          · have hj1 : j < s.data.toList.length := by rw [← HZ.out]; exact h3
            rw [hasPre47 hj1] at hR
            by_cases h4 : ((s[j]'h3).toNat : Int) = 45
            · have hb4 : (((s[j]'h3).toNat : Int) == 45) = true := by rw [beq_iff_eq]; exact h4
              have e4 : s.data.toList[j] = 45 := UInt8.toNat_inj.1 (Int.natCast_inj.1 (h4.trans (show (45 : Int) = ((45 : UInt8).toNat : Int) from rfl)))
              rw [if_pos (by simpa using e4)] at hR
              have HRR := hid hR
              clear hR hj e4 h4 H2 fp2 hj1 h2 I1 HI1 fp1
              go_wp2_with fail
              refine (H1.out _).mono ?_
              rintro e w2 ⟨R1, c1, rfl, m1, h2⟩
              have hv_ : Below u.heap.size u w2 := Below.trans (b := _) (by repeat (first | assumption | exact Below.refl _ _ | refine Below.alloc ?_ (by simp; try omega) _ | refine Below.drew ?_ | refine below_drewN ?_ _)) (h2.mono (by simp; try omega))
              replace q0 := keep_cell hv_ q0
              replace q1 := keep_cell hv_ q1
              replace q2 := keep_cell hv_ q2
              replace q3 := keep_cell hv_ q3
              have lt_q0 := cell_lt q0
              have lt_q1 := cell_lt q1
              have lt_q2 := cell_lt q2
              have lt_q3 := cell_lt q3
              replace z1 := z1.below hv_
              replace f_z1 := z1.fr
              replace HB := HB.trans (hv_.mono HB.size)
              clear hv_
              go_upto_region 5 with fail
              have a0 := at_alloc0 (W := w2) (a := .bool b1) (b := .slice R1 n1 c1) (t := 24) rfl
              have a1 := at_alloc1 (W := w2) (a := .bool b1) (b := .slice R1 n1 c1) (t := 24) rfl
              have hv_ : Below w2.heap.size w2 (w2.alloc (.cells #[.bool b1, .slice R1 n1 c1] 24)) := (Below.refl _ _).alloc (Nat.le_refl _) _
              generalize w2.alloc (.cells #[.bool b1, .slice R1 n1 c1] 24) = u2 at *
              replace m1 := m1.below hv_
              replace z1 := z1.below hv_
              replace q0 := keep_cell hv_ q0
              replace q1 := keep_cell hv_ q1
              replace q2 := keep_cell hv_ q2
              replace q3 := keep_cell hv_ q3
              replace HB := HB.trans (hv_.mono HB.size)
              clear hv_
              have lt_a := cell_lt a0
              have f_z1 := z1.fr
              go_wp2
              refine bodyPost_ret (v := .tuple #[.agg #[.bool false, .slice none 0 0, .bool false, .slice none 0 0], .int .i64 9]) ?_ rfl ?_
              · simp [results, Tryz.results30, go_sem, q0, q1, q2, q3]
              · rw [HRR.out]
                exact retFE_set 9 HB (by omega) q0 q1 q2 q3
            · have hb4 : (((s[j]'h3).toNat : Int) == 45) = false := by rw [beq_eq_false_iff_ne]; exact h4
              rw [if_neg (by simp only [decide_eq_true_eq]; exact fun e => h4 (by have := congrArg UInt8.toNat e; exact Int.natCast_inj.2 this))] at hR
              clear hj1 h4
              generalize (parE (s.data.toList.drop j)).1 = z2_ at *
              generalize (parE (s.data.toList.drop j)).2 = err2 at *
              obtain ⟨b2, n2, L2, I2⟩ := iz z2_
              replace H2 := hid fun (w1 : World) => (H2.out w1).mono fun e w' h => h.g I2.out
              by_cases he2 : err2 = 0
              · subst he2
                rw [if_neg (by simp)] at hR
                obtain ⟨⟨p, err⟩, hq⟩ : ∃ q, newE z1_ z2_ = q := ⟨_, rfl⟩
                obtain ⟨bq, kq, Xq, lq, Yq, IQ⟩ := fz p
                have HN := hid fun (w1 : World) (R Q : Option Addr) (c d : Nat) (m : Mg w1 R c L1) (m' : Mg w1 Q d L2) => QNew_z (w1 := w1) I1.out I2.out fp1.out fp2.out hq IQ.out m m'
                rw [hq] at hR
                have HRR := hid hR
                clear hR hq I1 I2 Io fp1 fp2 h2 HI1 hj
                go_wp2_with fail
                refine (H1.out _).mono ?_
                rintro e w2 ⟨R1, c1, rfl, m1, h2⟩
                have hv_ : Below u.heap.size u w2 := Below.trans (b := _) (by repeat (first | assumption | exact Below.refl _ _ | refine Below.alloc ?_ (by simp; try omega) _ | refine Below.drew ?_ | refine below_drewN ?_ _)) (h2.mono (by simp; try omega))
                replace q0 := keep_cell hv_ q0
                replace q1 := keep_cell hv_ q1
                replace q2 := keep_cell hv_ q2
                replace q3 := keep_cell hv_ q3
                have lt_q0 := cell_lt q0
                have lt_q1 := cell_lt q1
                have lt_q2 := cell_lt q2
                have lt_q3 := cell_lt q3
                replace z1 := z1.below hv_
                replace f_z1 := z1.fr
                replace HB := HB.trans (hv_.mono HB.size)
                clear hv_
                go_upto_region 5 with fail
                have a0 := at_alloc0 (W := w2) (a := .bool b1) (b := .slice R1 n1 c1) (t := 24) rfl
                have a1 := at_alloc1 (W := w2) (a := .bool b1) (b := .slice R1 n1 c1) (t := 24) rfl
                have hv_ : Below w2.heap.size w2 (w2.alloc (.cells #[.bool b1, .slice R1 n1 c1] 24)) := (Below.refl _ _).alloc (Nat.le_refl _) _
                generalize w2.alloc (.cells #[.bool b1, .slice R1 n1 c1] 24) = u2 at *
                replace m1 := m1.below hv_
                replace z1 := z1.below hv_
                replace q0 := keep_cell hv_ q0
                replace q1 := keep_cell hv_ q1
                replace q2 := keep_cell hv_ q2
                replace q3 := keep_cell hv_ q3
                replace HB := HB.trans (hv_.mono HB.size)
                clear hv_
                have lt_a := cell_lt a0
                have f_z1 := z1.fr
                go_wp2_with fail
                refine (H2.out _).mono ?_
                rintro e w3 ⟨R3, c3, rfl, m3, h3⟩
                have hv_ : Below u2.heap.size u2 w3 := Below.trans (b := _) (by repeat (first | assumption | exact Below.refl _ _ | refine Below.alloc ?_ (by simp; try omega) _ | refine Below.drew ?_ | refine below_drewN ?_ _)) (h3.mono (by simp; try omega))
                replace m1 := m1.below hv_
                replace a0 := keep_cell hv_ a0
                replace a1 := keep_cell hv_ a1
                replace q0 := keep_cell hv_ q0
                replace q1 := keep_cell hv_ q1
                replace q2 := keep_cell hv_ q2
                replace q3 := keep_cell hv_ q3
                have lt_a0 := cell_lt a0
                have lt_a1 := cell_lt a1
                have lt_q0 := cell_lt q0
                have lt_q1 := cell_lt q1
                have lt_q2 := cell_lt q2
                have lt_q3 := cell_lt q3
                replace z1 := z1.below hv_
                replace f_z1 := z1.fr
                replace HB := HB.trans (hv_.mono HB.size)
                clear hv_
                go_upto_region 12 with fail
                have k0 := at_alloc0 (W := w3) (a := .bool b2) (b := .slice R3 n2 c3) (t := 24) rfl
                have k1 := at_alloc1 (W := w3) (a := .bool b2) (b := .slice R3 n2 c3) (t := 24) rfl
                have hv_ : Below w3.heap.size w3 (w3.alloc (.cells #[.bool b2, .slice R3 n2 c3] 24)) := (Below.refl _ _).alloc (Nat.le_refl _) _
                generalize w3.alloc (.cells #[.bool b2, .slice R3 n2 c3] 24) = u3 at *
                replace m1 := m1.below hv_
                replace m3 := m3.below hv_
                replace z1 := z1.below hv_
                replace a0 := keep_cell hv_ a0
                replace a1 := keep_cell hv_ a1
                replace q0 := keep_cell hv_ q0
                replace q1 := keep_cell hv_ q1
                replace q2 := keep_cell hv_ q2
                replace q3 := keep_cell hv_ q3
                replace HB := HB.trans (hv_.mono HB.size)
                clear hv_
                have lt_a := cell_lt a0
                have lt_k := cell_lt k0
                have f_z1 := z1.fr
                go_wp2_with fail
                refine (HN.out _ _ _ _ _ m1 m3).mono ?_
                rintro e w4 ⟨R4, c4, Q4, d4, rfl, m4, m4b, h4⟩
                have hv_ : Below u3.heap.size u3 w4 := Below.trans (b := _) (by repeat (first | assumption | exact Below.refl _ _ | refine Below.alloc ?_ (by simp; try omega) _ | refine Below.drew ?_ | refine below_drewN ?_ _)) (h4.mono (by simp; try omega))
                replace q0 := keep_cell hv_ q0
                replace q1 := keep_cell hv_ q1
                replace q2 := keep_cell hv_ q2
                replace q3 := keep_cell hv_ q3
                have lt_q0 := cell_lt q0
                have lt_q1 := cell_lt q1
                have lt_q2 := cell_lt q2
                have lt_q3 := cell_lt q3
                replace z1 := z1.below hv_
                replace f_z1 := z1.fr
                replace HB := HB.trans (hv_.mono HB.size)
                clear hv_
                go_wp2
                refine bodyPost_ret (v := .tuple #[.agg #[.bool bq, .slice R4 kq c4, .bool false, .slice Q4 lq d4], .int .i64 err]) ?_ rfl ?_
                · simp [results, Tryz.results30, go_sem, q0, q1, q2, q3]
                · obtain ⟨j1_, j2_, j3_⟩ := fin_fr m4 m4b HB (by omega) q0 q1 q2 q3 (.bool bq) (.slice R4 kq c4) (.bool false) (.slice Q4 lq d4)
                  rw [HRR.out]
                  exact GF.r ⟨R4, c4, Q4, d4, rfl, j1_, j2_, j3_⟩ IQ.out
              · rw [if_pos he2] at hR
                have HRR := hid hR
                clear hR I1 I2 Io fp1 fp2 h2 HI1 hj
                go_wp2_with fail
                refine (H1.out _).mono ?_
                rintro e w2 ⟨R1, c1, rfl, m1, h2⟩
                have hv_ : Below u.heap.size u w2 := Below.trans (b := _) (by repeat (first | assumption | exact Below.refl _ _ | refine Below.alloc ?_ (by simp; try omega) _ | refine Below.drew ?_ | refine below_drewN ?_ _)) (h2.mono (by simp; try omega))
                replace q0 := keep_cell hv_ q0
                replace q1 := keep_cell hv_ q1
                replace q2 := keep_cell hv_ q2
                replace q3 := keep_cell hv_ q3
                have lt_q0 := cell_lt q0
                have lt_q1 := cell_lt q1
                have lt_q2 := cell_lt q2
                have lt_q3 := cell_lt q3
                replace z1 := z1.below hv_
                replace f_z1 := z1.fr
                replace HB := HB.trans (hv_.mono HB.size)
                clear hv_
                go_upto_region 5 with fail
                have a0 := at_alloc0 (W := w2) (a := .bool b1) (b := .slice R1 n1 c1) (t := 24) rfl
                have a1 := at_alloc1 (W := w2) (a := .bool b1) (b := .slice R1 n1 c1) (t := 24) rfl
                have hv_ : Below w2.heap.size w2 (w2.alloc (.cells #[.bool b1, .slice R1 n1 c1] 24)) := (Below.refl _ _).alloc (Nat.le_refl _) _
                generalize w2.alloc (.cells #[.bool b1, .slice R1 n1 c1] 24) = u2 at *
                replace m1 := m1.below hv_
                replace z1 := z1.below hv_
                replace q0 := keep_cell hv_ q0
                replace q1 := keep_cell hv_ q1
                replace q2 := keep_cell hv_ q2
                replace q3 := keep_cell hv_ q3
                replace HB := HB.trans (hv_.mono HB.size)
                clear hv_
                have lt_a := cell_lt a0
                have f_z1 := z1.fr
                go_wp2_with fail
                refine (H2.out _).mono ?_
                rintro e w3 ⟨R3, c3, rfl, m3, h3⟩
                have hv_ : Below u2.heap.size u2 w3 := Below.trans (b := _) (by repeat (first | assumption | exact Below.refl _ _ | refine Below.alloc ?_ (by simp; try omega) _ | refine Below.drew ?_ | refine below_drewN ?_ _)) (h3.mono (by simp; try omega))
                replace m1 := m1.below hv_
                replace a0 := keep_cell hv_ a0
                replace a1 := keep_cell hv_ a1
                replace q0 := keep_cell hv_ q0
                replace q1 := keep_cell hv_ q1
                replace q2 := keep_cell hv_ q2
                replace q3 := keep_cell hv_ q3
                have lt_a0 := cell_lt a0
                have lt_a1 := cell_lt a1
                have lt_q0 := cell_lt q0
                have lt_q1 := cell_lt q1
                have lt_q2 := cell_lt q2
                have lt_q3 := cell_lt q3
                replace z1 := z1.below hv_
                replace f_z1 := z1.fr
                replace HB := HB.trans (hv_.mono HB.size)
                clear hv_
                go_upto_region 12 with fail
                have k0 := at_alloc0 (W := w3) (a := .bool b2) (b := .slice R3 n2 c3) (t := 24) rfl
                have k1 := at_alloc1 (W := w3) (a := .bool b2) (b := .slice R3 n2 c3) (t := 24) rfl
                have hv_ : Below w3.heap.size w3 (w3.alloc (.cells #[.bool b2, .slice R3 n2 c3] 24)) := (Below.refl _ _).alloc (Nat.le_refl _) _
                generalize w3.alloc (.cells #[.bool b2, .slice R3 n2 c3] 24) = u3 at *
                replace m1 := m1.below hv_
                replace m3 := m3.below hv_
                replace z1 := z1.below hv_
                replace a0 := keep_cell hv_ a0
                replace a1 := keep_cell hv_ a1
                replace q0 := keep_cell hv_ q0
                replace q1 := keep_cell hv_ q1
                replace q2 := keep_cell hv_ q2
                replace q3 := keep_cell hv_ q3
                replace HB := HB.trans (hv_.mono HB.size)
                clear hv_
                have lt_a := cell_lt a0
                have lt_k := cell_lt k0
                have f_z1 := z1.fr
                go_wp2
                refine bodyPost_ret (v := .tuple #[.agg #[.bool false, .slice none 0 0, .bool false, .slice none 0 0], .int .i64 err2]) ?_ rfl ?_
                · simp [results, Tryz.results30, go_sem, q0, q1, q2, q3]
                · rw [HRR.out]
                  exact retFE_set err2 HB (by omega) q0 q1 q2 q3
          · rw [hasPre47n (by rw [← HZ.out]; exact h3), if_neg (by simp)] at hR
            generalize (parE (s.data.toList.drop j)).1 = z2_ at *
            generalize (parE (s.data.toList.drop j)).2 = err2 at *
            obtain ⟨b2, n2, L2, I2⟩ := iz z2_
            replace H2 := hid fun (w1 : World) => (H2.out w1).mono fun e w' h => h.g I2.out
            by_cases he2 : err2 = 0
            · subst he2
              rw [if_neg (by simp)] at hR
              obtain ⟨⟨p, err⟩, hq⟩ : ∃ q, newE z1_ z2_ = q := ⟨_, rfl⟩
              obtain ⟨bq, kq, Xq, lq, Yq, IQ⟩ := fz p
              have HN := hid fun (w1 : World) (R Q : Option Addr) (c d : Nat) (m : Mg w1 R c L1) (m' : Mg w1 Q d L2) => QNew_z (w1 := w1) I1.out I2.out fp1.out fp2.out hq IQ.out m m'
              rw [hq] at hR
              have HRR := hid hR
              clear hR hq I1 I2 Io fp1 fp2 h2 HI1 hj
              go_wp2_with fail
              refine (H1.out _).mono ?_
              rintro e w2 ⟨R1, c1, rfl, m1, h2⟩
              have hv_ : Below u.heap.size u w2 := Below.trans (b := _) (by repeat (first | assumption | exact Below.refl _ _ | refine Below.alloc ?_ (by simp; try omega) _ | refine Below.drew ?_ | refine below_drewN ?_ _)) (h2.mono (by simp; try omega))
              replace q0 := keep_cell hv_ q0
              replace q1 := keep_cell hv_ q1
              replace q2 := keep_cell hv_ q2
              replace q3 := keep_cell hv_ q3
              have lt_q0 := cell_lt q0
              have lt_q1 := cell_lt q1
              have lt_q2 := cell_lt q2
              have lt_q3 := cell_lt q3
              replace z1 := z1.below hv_
              replace f_z1 := z1.fr
              replace HB := HB.trans (hv_.mono HB.size)
              clear hv_
              go_upto_region 5 with fail
              have a0 := at_alloc0 (W := w2) (a := .bool b1) (b := .slice R1 n1 c1) (t := 24) rfl
              have a1 := at_alloc1 (W := w2) (a := .bool b1) (b := .slice R1 n1 c1) (t := 24) rfl
              have hv_ : Below w2.heap.size w2 (w2.alloc (.cells #[.bool b1, .slice R1 n1 c1] 24)) := (Below.refl _ _).alloc (Nat.le_refl _) _
              generalize w2.alloc (.cells #[.bool b1, .slice R1 n1 c1] 24) = u2 at *
              replace m1 := m1.below hv_
              replace z1 := z1.below hv_
              replace q0 := keep_cell hv_ q0
              replace q1 := keep_cell hv_ q1
              replace q2 := keep_cell hv_ q2
              replace q3 := keep_cell hv_ q3
              replace HB := HB.trans (hv_.mono HB.size)
              clear hv_
              have lt_a := cell_lt a0
              have f_z1 := z1.fr
              go_wp2_with fail
              refine (H2.out _).mono ?_
              rintro e w3 ⟨R3, c3, rfl, m3, h3⟩
              have hv_ : Below u2.heap.size u2 w3 := Below.trans (b := _) (by repeat (first | assumption | exact Below.refl _ _ | refine Below.alloc ?_ (by simp; try omega) _ | refine Below.drew ?_ | refine below_drewN ?_ _)) (h3.mono (by simp; try omega))
              replace m1 := m1.below hv_
              replace a0 := keep_cell hv_ a0
              replace a1 := keep_cell hv_ a1
              replace q0 := keep_cell hv_ q0
              replace q1 := keep_cell hv_ q1
              replace q2 := keep_cell hv_ q2
              replace q3 := keep_cell hv_ q3
              have lt_a0 := cell_lt a0
              have lt_a1 := cell_lt a1
              have lt_q0 := cell_lt q0
              have lt_q1 := cell_lt q1
              have lt_q2 := cell_lt q2
              have lt_q3 := cell_lt q3
              replace z1 := z1.below hv_
              replace f_z1 := z1.fr
              replace HB := HB.trans (hv_.mono HB.size)
              clear hv_
              go_upto_region 12 with fail
              have k0 := at_alloc0 (W := w3) (a := .bool b2) (b := .slice R3 n2 c3) (t := 24) rfl
              have k1 := at_alloc1 (W := w3) (a := .bool b2) (b := .slice R3 n2 c3) (t := 24) rfl
              have hv_ : Below w3.heap.size w3 (w3.alloc (.cells #[.bool b2, .slice R3 n2 c3] 24)) := (Below.refl _ _).alloc (Nat.le_refl _) _
              generalize w3.alloc (.cells #[.bool b2, .slice R3 n2 c3] 24) = u3 at *
              replace m1 := m1.below hv_
              replace m3 := m3.below hv_
              replace z1 := z1.below hv_
              replace a0 := keep_cell hv_ a0
              replace a1 := keep_cell hv_ a1
              replace q0 := keep_cell hv_ q0
              replace q1 := keep_cell hv_ q1
              replace q2 := keep_cell hv_ q2
              replace q3 := keep_cell hv_ q3
              replace HB := HB.trans (hv_.mono HB.size)
              clear hv_
              have lt_a := cell_lt a0
              have lt_k := cell_lt k0
              have f_z1 := z1.fr
              go_wp2_with fail
              refine (HN.out _ _ _ _ _ m1 m3).mono ?_
              rintro e w4 ⟨R4, c4, Q4, d4, rfl, m4, m4b, h4⟩
              have hv_ : Below u3.heap.size u3 w4 := Below.trans (b := _) (by repeat (first | assumption | exact Below.refl _ _ | refine Below.alloc ?_ (by simp; try omega) _ | refine Below.drew ?_ | refine below_drewN ?_ _)) (h4.mono (by simp; try omega))
              replace q0 := keep_cell hv_ q0
              replace q1 := keep_cell hv_ q1
              replace q2 := keep_cell hv_ q2
              replace q3 := keep_cell hv_ q3
              have lt_q0 := cell_lt q0
              have lt_q1 := cell_lt q1
              have lt_q2 := cell_lt q2
              have lt_q3 := cell_lt q3
              replace z1 := z1.below hv_
              replace f_z1 := z1.fr
              replace HB := HB.trans (hv_.mono HB.size)
              clear hv_
              go_wp2
              refine bodyPost_ret (v := .tuple #[.agg #[.bool bq, .slice R4 kq c4, .bool false, .slice Q4 lq d4], .int .i64 err]) ?_ rfl ?_
              · simp [results, Tryz.results30, go_sem, q0, q1, q2, q3]
              · obtain ⟨j1_, j2_, j3_⟩ := fin_fr m4 m4b HB (by omega) q0 q1 q2 q3 (.bool bq) (.slice R4 kq c4) (.bool false) (.slice Q4 lq d4)
                rw [HRR.out]
                exact GF.r ⟨R4, c4, Q4, d4, rfl, j1_, j2_, j3_⟩ IQ.out
            · rw [if_pos he2] at hR
              have HRR := hid hR
              clear hR I1 I2 Io fp1 fp2 h2 HI1 hj
              go_wp2_with fail
              refine (H1.out _).mono ?_
              rintro e w2 ⟨R1, c1, rfl, m1, h2⟩
              have hv_ : Below u.heap.size u w2 := Below.trans (b := _) (by repeat (first | assumption | exact Below.refl _ _ | refine Below.alloc ?_ (by simp; try omega) _ | refine Below.drew ?_ | refine below_drewN ?_ _)) (h2.mono (by simp; try omega))
              replace q0 := keep_cell hv_ q0
              replace q1 := keep_cell hv_ q1
              replace q2 := keep_cell hv_ q2
              replace q3 := keep_cell hv_ q3
              have lt_q0 := cell_lt q0
              have lt_q1 := cell_lt q1
              have lt_q2 := cell_lt q2
              have lt_q3 := cell_lt q3
              replace z1 := z1.below hv_
              replace f_z1 := z1.fr
              replace HB := HB.trans (hv_.mono HB.size)
              clear hv_
              go_upto_region 5 with fail
              have a0 := at_alloc0 (W := w2) (a := .bool b1) (b := .slice R1 n1 c1) (t := 24) rfl
              have a1 := at_alloc1 (W := w2) (a := .bool b1) (b := .slice R1 n1 c1) (t := 24) rfl
              have hv_ : Below w2.heap.size w2 (w2.alloc (.cells #[.bool b1, .slice R1 n1 c1] 24)) := (Below.refl _ _).alloc (Nat.le_refl _) _
              generalize w2.alloc (.cells #[.bool b1, .slice R1 n1 c1] 24) = u2 at *
              replace m1 := m1.below hv_
              replace z1 := z1.below hv_
              replace q0 := keep_cell hv_ q0
              replace q1 := keep_cell hv_ q1
              replace q2 := keep_cell hv_ q2
              replace q3 := keep_cell hv_ q3
              replace HB := HB.trans (hv_.mono HB.size)
              clear hv_
              have lt_a := cell_lt a0
              have f_z1 := z1.fr
              go_wp2_with fail
              refine (H2.out _).mono ?_
              rintro e w3 ⟨R3, c3, rfl, m3, h3⟩
              have hv_ : Below u2.heap.size u2 w3 := Below.trans (b := _) (by repeat (first | assumption | exact Below.refl _ _ | refine Below.alloc ?_ (by simp; try omega) _ | refine Below.drew ?_ | refine below_drewN ?_ _)) (h3.mono (by simp; try omega))
              replace m1 := m1.below hv_
              replace a0 := keep_cell hv_ a0
              replace a1 := keep_cell hv_ a1
              replace q0 := keep_cell hv_ q0
              replace q1 := keep_cell hv_ q1
              replace q2 := keep_cell hv_ q2
              replace q3 := keep_cell hv_ q3
              have lt_a0 := cell_lt a0
              have lt_a1 := cell_lt a1
              have lt_q0 := cell_lt q0
              have lt_q1 := cell_lt q1
              have lt_q2 := cell_lt q2
              have lt_q3 := cell_lt q3
              replace z1 := z1.below hv_
              replace f_z1 := z1.fr
              replace HB := HB.trans (hv_.mono HB.size)
              clear hv_
              go_upto_region 12 with fail
              have k0 := at_alloc0 (W := w3) (a := .bool b2) (b := .slice R3 n2 c3) (t := 24) rfl
              have k1 := at_alloc1 (W := w3) (a := .bool b2) (b := .slice R3 n2 c3) (t := 24) rfl
              have hv_ : Below w3.heap.size w3 (w3.alloc (.cells #[.bool b2, .slice R3 n2 c3] 24)) := (Below.refl _ _).alloc (Nat.le_refl _) _
              generalize w3.alloc (.cells #[.bool b2, .slice R3 n2 c3] 24) = u3 at *
              replace m1 := m1.below hv_
              replace m3 := m3.below hv_
              replace z1 := z1.below hv_
              replace a0 := keep_cell hv_ a0
              replace a1 := keep_cell hv_ a1
              replace q0 := keep_cell hv_ q0
              replace q1 := keep_cell hv_ q1
              replace q2 := keep_cell hv_ q2
              replace q3 := keep_cell hv_ q3
              replace HB := HB.trans (hv_.mono HB.size)
              clear hv_
              have lt_a := cell_lt a0
              have lt_k := cell_lt k0
              have f_z1 := z1.fr
              go_wp2
              refine bodyPost_ret (v := .tuple #[.agg #[.bool false, .slice none 0 0, .bool false, .slice none 0 0], .int .i64 err2]) ?_ rfl ?_
              · simp [results, Tryz.results30, go_sem, q0, q1, q2, q3]
              · rw [HRR.out]
                exact retFE_set err2 HB (by omega) q0 q1 q2 q3
        · rw [if_pos he1] at hR
          have HRR := hid hR
          clear hR HI1 Io fp1 I1 h2
          go_wp2_with fail
          refine (H1.out _).mono ?_
          rintro e w2 ⟨R1, c1, rfl, m1, h2⟩
          have hv_ : Below u.heap.size u w2 := Below.trans (b := _) (by repeat (first | assumption | exact Below.refl _ _ | refine Below.alloc ?_ (by simp; try omega) _ | refine Below.drew ?_ | refine below_drewN ?_ _)) (h2.mono (by simp; try omega))
          replace q0 := keep_cell hv_ q0
          replace q1 := keep_cell hv_ q1
          replace q2 := keep_cell hv_ q2
          replace q3 := keep_cell hv_ q3
          have lt_q0 := cell_lt q0
          have lt_q1 := cell_lt q1
          have lt_q2 := cell_lt q2
          have lt_q3 := cell_lt q3
          replace z1 := z1.below hv_
          replace f_z1 := z1.fr
          replace HB := HB.trans (hv_.mono HB.size)
          clear hv_
          go_upto_region 5 with fail
          have a0 := at_alloc0 (W := w2) (a := .bool b1) (b := .slice R1 n1 c1) (t := 24) rfl
          have a1 := at_alloc1 (W := w2) (a := .bool b1) (b := .slice R1 n1 c1) (t := 24) rfl
          have hv_ : Below w2.heap.size w2 (w2.alloc (.cells #[.bool b1, .slice R1 n1 c1] 24)) := (Below.refl _ _).alloc (Nat.le_refl _) _
          generalize w2.alloc (.cells #[.bool b1, .slice R1 n1 c1] 24) = u2 at *
          replace m1 := m1.below hv_
          replace z1 := z1.below hv_
          replace q0 := keep_cell hv_ q0
          replace q1 := keep_cell hv_ q1
          replace q2 := keep_cell hv_ q2
          replace q3 := keep_cell hv_ q3
          replace HB := HB.trans (hv_.mono HB.size)
          clear hv_
          have lt_a := cell_lt a0
          have f_z1 := z1.fr
          go_wp2
          refine bodyPost_ret (v := .tuple #[.agg #[.bool false, .slice none 0 0, .bool false, .slice none 0 0], .int .i64 err1]) ?_ rfl ?_
          · simp [results, Tryz.results30, go_sem, q0, q1, q2, q3]
          · rw [HRR.out]
            exact retFE_set err1 HB (by omega) q0 q1 q2 q3
      · have hb : (((s[k]'h1).toNat : Int) != 47) = true := by rw [bne_iff_ne]; exact h2
        have hk3 : Hid (k + 1 ≤ at47 s.data.toList) := at47_step hk.out hk1 (fun e => h2 (by have := congrArg UInt8.toNat e; exact Int.natCast_inj.2 this))
        clear H1 hS1 fp1 HI1
        go_wp2
        go_roundw
        case rel => exact ⟨k + 1, hk3, by omega, by go_num, by first | rfl | trivial⟩
        case measure => simp [intOf]; omega
    · have hR := HR.out
      unfold parF at hR
      have h47 := at47_le s.data.toList
      have hz := HZ.out
      have ek : at47 s.data.toList = k := by have := hk.out; omega
      rw [ek] at hR
      rw [if_pos (show ¬ k < s.data.toList.length by omega)] at hR
      obtain rfl : k = s.size := by omega
      clear HR ek hk h47 hz
      generalize (parE (s.data.toList.take s.size)).1 = z1_ at *
      generalize (parE (s.data.toList.take s.size)).2 = err1 at *
      obtain ⟨b1, n1, L1, I1⟩ := iz z1_
      replace H1 := hid fun (w1 : World) => (H1.out w1).mono fun e w' h => h.g I1.out
      by_cases he1 : err1 = 0
      · subst he1
        rw [if_neg (by simp)] at hR
        obtain ⟨⟨p, err⟩, hq⟩ : ∃ q, newE z1_ 1 = q := ⟨_, rfl⟩
        obtain ⟨bq, kq, Xq, lq, Yq, IQ⟩ := fz p
        have HN := hid fun (w1 : World) (R Q : Option Addr) (c d : Nat) (m : Mg w1 R c L1) (m' : Mg w1 Q d Lo) => QNew_z (w1 := w1) I1.out Io.out fp1.out (valid_int 1 (by omega) (by omega)) hq IQ.out m m'
        rw [hq] at hR
        have HRR := hid hR
        clear hR hq I1 Io fp1
        go_wp2_with fail
        refine (H1.out _).mono ?_
        rintro e w2 ⟨R1, c1, rfl, m1, h2⟩
        have hv_ : Below u.heap.size u w2 := Below.trans (b := _) (by repeat (first | assumption | exact Below.refl _ _ | refine Below.alloc ?_ (by simp; try omega) _ | refine Below.drew ?_ | refine below_drewN ?_ _)) (h2.mono (by simp; try omega))
        replace q0 := keep_cell hv_ q0
        replace q1 := keep_cell hv_ q1
        replace q2 := keep_cell hv_ q2
        replace q3 := keep_cell hv_ q3
        have lt_q0 := cell_lt q0
        have lt_q1 := cell_lt q1
        have lt_q2 := cell_lt q2
        have lt_q3 := cell_lt q3
        replace z1 := z1.below hv_
        replace f_z1 := z1.fr
        replace HB := HB.trans (hv_.mono HB.size)
        clear hv_
        go_upto_region 5 with fail
        have a0 := at_alloc0 (W := w2) (a := .bool b1) (b := .slice R1 n1 c1) (t := 24) rfl
        have a1 := at_alloc1 (W := w2) (a := .bool b1) (b := .slice R1 n1 c1) (t := 24) rfl
        have hv_ : Below w2.heap.size w2 (w2.alloc (.cells #[.bool b1, .slice R1 n1 c1] 24)) := (Below.refl _ _).alloc (Nat.le_refl _) _
        generalize w2.alloc (.cells #[.bool b1, .slice R1 n1 c1] 24) = u2 at *
        replace m1 := m1.below hv_
        replace z1 := z1.below hv_
        replace q0 := keep_cell hv_ q0
        replace q1 := keep_cell hv_ q1
        replace q2 := keep_cell hv_ q2
        replace q3 := keep_cell hv_ q3
        replace HB := HB.trans (hv_.mono HB.size)
        clear hv_
        have lt_a := cell_lt a0
        have f_z1 := z1.fr
        go_wp2_with fail
        go_region_held3 (fun w' => w'.cell? ⟨w2.heap.size, 0, none⟩ = some (.bool b1) ∧ w'.cell? ⟨w2.heap.size, 1, none⟩ = some (.slice R1 n1 c1)) (first | ((try dsimp only); repeat' (first | with_reducible assumption | apply And.intro | (with_reducible refine keep_alloc ?_) | (with_reducible refine keep_drew ?_) | (with_reducible refine keep_set (by first | omega | (simp only [World.size_alloc, World.size_setCell, World.size_drew]; done) | (simp only [World.size_alloc, World.size_setCell, World.size_drew]; omega)) ?_) | (with_reducible refine keep_cell (W := u2) ?_ ?_) | fail))) (first | (go_at_call 59; (with_reducible refine (HI1.out _).mono ?_); rintro e y1 ⟨R3, c3, rfl, m3, hq_⟩; have qy1 : Below u2.heap.size u2 y1 := bel_step (by repeat' (first | with_reducible assumption | exact Below.refl _ _ | (refine Below.alloc ?_ (by first | omega | (simp only [World.size_alloc, World.size_setCell, World.size_drew]; done) | (simp only [World.size_alloc, World.size_setCell, World.size_drew]; omega)) _) | (refine Below.drew ?_) | (refine below_drewN ?_ _) | (refine Below.setCell ?_ (by first | omega | (simp only [World.size_alloc, World.size_setCell, World.size_drew]; done) | (simp only [World.size_alloc, World.size_setCell, World.size_drew]; omega)) _))) hq_) | (go_at_call 18; (with_reducible refine (HN.out _ _ _ _ _ (m1.below (by repeat' (first | with_reducible assumption | exact Below.refl _ _ | (refine Below.alloc ?_ (by first | omega | (simp only [World.size_alloc, World.size_setCell, World.size_drew]; done) | (simp only [World.size_alloc, World.size_setCell, World.size_drew]; omega)) _) | (refine Below.drew ?_) | (refine below_drewN ?_ _) | (refine Below.setCell ?_ (by first | omega | (simp only [World.size_alloc, World.size_setCell, World.size_drew]; done) | (simp only [World.size_alloc, World.size_setCell, World.size_drew]; omega)) _)))) (m3.below (by repeat' (first | with_reducible assumption | exact Below.refl _ _ | (refine Below.alloc ?_ (by first | omega | (simp only [World.size_alloc, World.size_setCell, World.size_drew]; done) | (simp only [World.size_alloc, World.size_setCell, World.size_drew]; omega)) _) | (refine Below.drew ?_) | (refine below_drewN ?_ _) | (refine Below.setCell ?_ (by first | omega | (simp only [World.size_alloc, World.size_setCell, World.size_drew]; done) | (simp only [World.size_alloc, World.size_setCell, World.size_drew]; omega)) _))))).mono ?_); rintro e y2 ⟨R4, c4, Q4, d4, rfl, m4, m4b, hq_⟩; have qy2 : Below u2.heap.size u2 y2 := bel_step (by repeat' (first | with_reducible assumption | exact Below.refl _ _ | (refine Below.alloc ?_ (by first | omega | (simp only [World.size_alloc, World.size_setCell, World.size_drew]; done) | (simp only [World.size_alloc, World.size_setCell, World.size_drew]; omega)) _) | (refine Below.drew ?_) | (refine below_drewN ?_ _) | (refine Below.setCell ?_ (by first | omega | (simp only [World.size_alloc, World.size_setCell, World.size_drew]; done) | (simp only [World.size_alloc, World.size_setCell, World.size_drew]; omega)) _))) hq_; have q0 := keep_cell qy2 q0; have q1 := keep_cell qy2 q1; have q2 := keep_cell qy2 q2; have q3 := keep_cell qy2 q3; have z1 := z1.below qy2; have f_z1 := z1.fr))
        all_goals
          replace HB := bel_step HB qy2
          go_wp2
          refine bodyPost_ret (v := .tuple #[.agg #[.bool bq, .slice R4 kq c4, .bool false, .slice Q4 lq d4], .int .i64 err]) ?_ rfl ?_
          · simp [results, Tryz.results30, go_sem, q0, q1, q2, q3]
          · obtain ⟨j1_, j2_, j3_⟩ := fin_fr m4 m4b HB (by omega) q0 q1 q2 q3 (.bool bq) (.slice R4 kq c4) (.bool false) (.slice Q4 lq d4)
            rw [HRR.out]
            exact GF.r ⟨R4, c4, Q4, d4, rfl, j1_, j2_, j3_⟩ IQ.out
      · rw [if_pos he1] at hR
        have HRR := hid hR
        clear hR HI1 Io fp1 I1
        go_wp2_with fail
        refine (H1.out _).mono ?_
        rintro e w2 ⟨R1, c1, rfl, m1, h2⟩
        have hv_ : Below u.heap.size u w2 := Below.trans (b := _) (by repeat (first | assumption | exact Below.refl _ _ | refine Below.alloc ?_ (by simp; try omega) _ | refine Below.drew ?_ | refine below_drewN ?_ _)) (h2.mono (by simp; try omega))
        replace q0 := keep_cell hv_ q0
        replace q1 := keep_cell hv_ q1
        replace q2 := keep_cell hv_ q2
        replace q3 := keep_cell hv_ q3
        have lt_q0 := cell_lt q0
        have lt_q1 := cell_lt q1
        have lt_q2 := cell_lt q2
        have lt_q3 := cell_lt q3
        replace z1 := z1.below hv_
        replace f_z1 := z1.fr
        replace HB := HB.trans (hv_.mono HB.size)
        clear hv_
        go_upto_region 5 with fail
        have a0 := at_alloc0 (W := w2) (a := .bool b1) (b := .slice R1 n1 c1) (t := 24) rfl
        have a1 := at_alloc1 (W := w2) (a := .bool b1) (b := .slice R1 n1 c1) (t := 24) rfl
        have hv_ : Below w2.heap.size w2 (w2.alloc (.cells #[.bool b1, .slice R1 n1 c1] 24)) := (Below.refl _ _).alloc (Nat.le_refl _) _
        generalize w2.alloc (.cells #[.bool b1, .slice R1 n1 c1] 24) = u2 at *
        replace m1 := m1.below hv_
        replace z1 := z1.below hv_
        replace q0 := keep_cell hv_ q0
        replace q1 := keep_cell hv_ q1
        replace q2 := keep_cell hv_ q2
        replace q3 := keep_cell hv_ q3
        replace HB := HB.trans (hv_.mono HB.size)
        clear hv_
        have lt_a := cell_lt a0
        have f_z1 := z1.fr
        go_wp2
        refine bodyPost_ret (v := .tuple #[.agg #[.bool false, .slice none 0 0, .bool false, .slice none 0 0], .int .i64 err1]) ?_ rfl ?_
        · simp [results, Tryz.results30, go_sem, q0, q1, q2, q3]
        · rw [HRR.out]
          exact retFE_set err1 HB (by omega) q0 q1 q2 q3
end Go.Proofs.YtfhbigfbeppinaaGreatDoor
