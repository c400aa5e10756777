/- Integers: the walk of FromDigits. Conditions: none. -/
import Derived.Test.YtkfpcohdbbhmaaaDoorBi24
set_option linter.unusedVariables false
set_option linter.unusedSimpArgs false
namespace Go.Proofs.YtkfpcohdbbhmaaaDoor
open Go.RowKit Big

def di (z : Int) : Value := .int .i64 z

theorem ofd_ge {b : Nat} (hb : 1 ≤ b) (l : List Nat) (m : Nat) : m ≤ ofd b m l := by
  induction l generalizing m with
  | nil => exact Nat.le_refl _
  | cons d l ih => exact Nat.le_trans (Nat.le_trans (Nat.le_mul_of_pos_right m hb) (Nat.le_add_right _ d)) (ih _)

def okD (b : Nat) (l : List Int) : Prop := ∀ d ∈ l, 0 ≤ d ∧ d < (b : Int)
instance (b : Nat) (l : List Int) : Decidable (okD b l) := inferInstanceAs (Decidable (∀ d ∈ l, 0 ≤ d ∧ d < (b : Int)))
def nats (l : List Int) : List Nat := l.map Int.toNat
/-- what FromDigits answers at a base from 2 to 65536 -/
def fdE (b : Nat) (l : List Int) : Int × Int := if 4096 < l.length then (0, 4) else if okD b l then fitE (ofd b 0 (nats l)) else (0, 3)

theorem scale_n (A : Option Addr) (c n m p : Nat) (w : World) (ha : Mg w A c (limbs n)) (hm : m < 4294967296) (hp : p < 4294967296) (hs : (limbs n).length ≤ 1073741824) :
    Calls Tryd.prog 65 #[.slice A (limbs n).length c, .int .u32 m, .int .u32 p] w (RetN w (n * m + p)) := by
  have := scale_any A c _ m p w ha hm hp hs; rwa [val_limbs] at this

theorem fin_bad {w W : World} (hb : Below w.heap.size w W) (err : Int) (u0 u1 : Value) :
    RetZE w 0 err (.returned (.tuple #[.agg #[.bool false, .slice none 0 0], .int .i64 err])) ((W.setCell ⟨w.heap.size, 0, none⟩ u0).setCell ⟨w.heap.size, 1, none⟩ u1) :=
  retZE_zero err (below_set (below_set hb (Nat.le_refl _) _ _) (Nat.le_refl _) _ _)

theorem FromDigits_base (l : List Int) (b : Int) (A : Option Addr) (c : Nat) (w : World) (h : b < 2 ∨ 65536 < b) :
    Calls Tryd.prog 37 #[.slice A l.length c, .int .i64 b] w (RetZE w 0 1) := by
  rcases h with h | h
  all_goals
    go_enter Tryd.func37, Tryd.ntmps37
    go_wp2
    refine bodyPost_ret (v := .tuple #[.agg #[.bool false, .slice none 0 0], .int .i64 1]) ?_ rfl ?_
    · simp [results, Tryd.results37, go_sem]
    · exact retZE_zero _ ((Below.refl _ _).alloc (Nat.le_refl _) _)

set_option maxHeartbeats 1000000 in
theorem FromDigits_ok (l : List Int) (b : Nat) (A : Option Addr) (c : Nat) (w : World) (hr : Rd di w A l) (h2 : 2 ≤ b) (hb : b ≤ 65536) :
    Calls Tryd.prog 37 #[.slice A l.length c, .int .i64 b] w (RetZE w (fdE b l).1 (fdE b l).2) := by
  by_cases hlen : 4096 < l.length
  · have hR : fdE b l = (0, 4) := by simp [fdE, hlen]
    rw [hR]
    go_enter Tryd.func37, Tryd.ntmps37
    go_wp2
    refine bodyPost_ret (v := .tuple #[.agg #[.bool false, .slice none 0 0], .int .i64 4]) ?_ rfl ?_
    · simp [results, Tryd.results37, go_sem]
    · exact retZE_zero _ ((Below.refl _ _).alloc (Nat.le_refl _) _)
  · have H1 := hid (show fdE b l = if okD b l then fitE (ofd b 0 (nats l)) else (0, 3) by simp [fdE, hlen])
    have HS := hid fun (w1 : World) (R1 : Option Addr) (c1 P d : Nat) (h1 : Mg w1 R1 c1 (limbs P)) (hl : (limbs P).length ≤ 512) (hd : d < 4294967296) => scale_n R1 c1 P b d w1 h1 (by omega) hd (by omega)
    have HI := hid fun (w1 : World) (R1 : Option Addr) (c1 : Nat) (P : Nat) (h1 : Mg w1 R1 c1 (limbs P)) => integer_any false R1 c1 P w1 h1
    generalize hRR : fdE b l = RR at *
    clear hRR
    go_enter Tryd.func37, Tryd.ntmps37
    go_wp2
    go_loop [24] (fun s => ∃ i : Nat, s = .int .i64 i ∧ i ≤ l.length ∧ Hid (∀ d ∈ l.take i, 0 ≤ d ∧ d < (b : Int))) (fun s => l.length - (intOf s).toNat)
    case atStart => exact ⟨0, rfl, by omega, by unfold Hid; simp⟩
    case round =>
      obtain ⟨i, rfl, hi, hok⟩ := hrel
      by_cases hlt : i < l.length
      · obtain ⟨bk, o, rfl, hbk, hc⟩ := hr.at_ hlt
        have c1 := hc i hlt
        unfold di at c1
        clear hc
        have hmem : Hid (l[i] ∈ l) := List.getElem_mem hlt
        have htk : Hid (l.take (i + 1) = l.take i ++ [l[i]]) := List.take_succ_eq_append_getElem hlt
        generalize l[i] = d at *
        by_cases hin : 0 ≤ d ∧ d < (b : Int)
        · obtain ⟨hi0, hi1⟩ := hin
          go_wp2
          go_round
          case rel => exact ⟨i + 1, by go_num, by omega, by
            unfold Hid
            rw [htk.out]
            intro e he
            rcases List.mem_append.1 he with he | he
            · exact hok.out e he
            · rw [List.mem_singleton] at he; subst he; exact ⟨hi0, hi1⟩⟩
          case measure => simp [intOf]; omega
        · have hRR : RR = (0, 3) := by
            rw [H1.out, if_neg]
            intro h
            exact hin (h d hmem.out)
          rw [hRR]
          by_cases hd0 : 0 ≤ d
          all_goals
            go_wp2
            refine bodyPost_ret (v := .tuple #[.agg #[.bool false, .slice none 0 0], .int .i64 3]) ?_ rfl ?_
            · simp [results, Tryd.results37, go_sem]
            · exact retZE_zero _ ((Below.refl _ _).alloc (Nat.le_refl _) _)
      · obtain rfl : i = l.length := by omega
        have hall : okD b l := by have := hok.out; rw [List.take_length] at this; exact this
        have hRR : Hid (RR = fitE (ofd b 0 (nats l))) := by unfold Hid; rw [H1.out, if_pos hall]
        have HA := hid hall
        clear H1 hok hall
        go_wp2
        go_loopw [8, 39] (fun s8 s39 wr => ∃ (i : Nat) (R : Option Addr) (cc P : Nat), s39 = .int .i64 i ∧ i ≤ l.length ∧ s8 = .slice R (limbs P).length cc ∧ Mg wr R cc (limbs P) ∧ (limbs P).length ≤ 512 ∧ Below (w.heap.size + 1) (w.alloc (.cells #[.bool false, .slice none 0 0] 24)) wr ∧ Hid (P = ofd b 0 (nats (l.take i)))) (fun _ s39 _ => l.length - (intOf s39).toNat)
        case atStart => exact ⟨0, none, 0, 0, rfl, by omega, by simp [limbs_zero], mg_nil _, by simp [limbs_zero], by have := Below.refl (w.alloc (.cells #[.bool false, .slice none 0 0] 24)).heap.size (w.alloc (.cells #[.bool false, .slice none 0 0] 24)); simpa using this, rfl⟩
        case round =>
          clear hi hlt
          obtain ⟨i, R, cc, P, rfl, hi, rfl, hm, hl, hbl, hP⟩ := hrel
          have hbl0 : Below (w.alloc (.cells #[.bool false, .slice none 0 0] 24)).heap.size (w.alloc (.cells #[.bool false, .slice none 0 0] 24)) wr := by simpa using hbl
          obtain ⟨p1, p2, p3⟩ := box_keep hbl0
          have bw : Below w.heap.size w wr := ((Below.refl _ _).alloc (Nat.le_refl _) _).trans (hbl0.mono (by simp))
          by_cases hlt : i < l.length
          · obtain ⟨bk, o, rfl, hbk, hc⟩ := hr.at_ hlt
            have c1 := (bw.cell (p := ⟨bk, o + i, none⟩) hbk).trans (hc i hlt)
            unfold di at c1
            clear hc
            obtain ⟨hi0, hi1⟩ := HA.out _ (List.getElem_mem hlt)
            have htk : Hid (nats (l.take (i + 1)) = nats (l.take i) ++ [l[i].toNat]) := by unfold Hid nats; rw [List.take_succ_eq_append_getElem hlt, List.map_append]; rfl
            have hdr : Hid (nats l = nats (l.take (i + 1)) ++ nats (l.drop (i + 1))) := by unfold Hid nats; rw [← List.map_append, List.take_append_drop]
            generalize l[i] = d at *
            obtain ⟨d, rfl⟩ : ∃ d' : Nat, d = (d' : Int) := ⟨d.toNat, by omega⟩
            rw [Int.toNat_natCast] at htk
            have HC := HS.out wr R cc P d hm hl (by omega)
            have hP2 : Hid (P * b + d = ofd b 0 (nats (l.take (i + 1)))) := by unfold Hid; rw [htk.out, ofd_app, ← hP.out]; rfl
            generalize P * b + d = Q at *
            have HC := hid HC
            clear HS htk
            by_cases hq : 512 < (limbs Q).length
            · have hRR2 : RR = (0, 4) := by
                rw [hRR.out, hdr.out, ofd_app, ← hP2.out]
                exact fitE_no (by
                  unfold fits
                  have := limbs_mono (ofd_ge (show 1 ≤ b by omega) (nats (l.drop (i + 1))) Q)
                  simp; omega)
              go_wp2_with (go_at_call 65; refine HC.out.mono ?_; rintro e w3 ⟨R3, c3, rfl, hr3, h3⟩; obtain ⟨q1, q2, q3⟩ := box_keep (hbl0.trans (h3.mono hbl0.size)))
              have k0 := q1 0
              have k1 := q1 1
              simp at k0 k1
              rw [hRR2]
              refine bodyPost_ret (v := .tuple #[.agg #[.bool false, .slice none 0 0], .int .i64 4]) ?_ rfl ?_
              · simp [results, Tryd.results37, go_sem, k0, k1]
              · exact fin_bad (bw.trans (h3.mono bw.size)) _ _ _
            · go_wp2_with (go_at_call 65; refine HC.out.mono ?_; rintro e w3 ⟨R3, c3, rfl, hr3, h3⟩; obtain ⟨q1, q2, q3⟩ := box_keep (hbl0.trans (h3.mono hbl0.size)))
              go_roundw
              case rel => exact ⟨i + 1, R3, c3, Q, by go_num, by omega, rfl, hr3, by omega, hbl.trans (h3.mono (by have := hbl.size; simp at this; omega)), hP2⟩
              case measure => simp [intOf]; omega
          · obtain rfl : i = l.length := by omega
            have hRR2 : RR = ((P : Int), 0) := by
              rw [hRR.out, show ofd b 0 (nats l) = P by rw [hP.out, List.take_length]]
              exact fitE_yes (by unfold fits; simpa using hl)
            have HC := HI.out wr R cc P hm
            rw [show sg false P = (P : Int) by simp [sg]] at HC
            have HC := hid HC
            go_wp2_with (go_at_call 54; refine HC.out.mono ?_; rintro e w3 ⟨R3, c3, rfl, hr3, h3⟩; obtain ⟨q1, q2, q3⟩ := box_keep (hbl0.trans (h3.mono hbl0.size)))
            have k0 := q1 0
            have k1 := q1 1
            simp at k0 k1
            rw [hRR2]
            refine bodyPost_ret (v := .tuple #[.agg #[.bool (decide (((P : Int)) < 0)), .slice R3 (limbs (Int.natAbs ((P : Int)))).length c3], .int .i64 0]) ?_ rfl ?_
            · simp [results, Tryd.results37, go_sem, k0, k1]
            · exact fin_ze hr3 (bw.trans (h3.mono bw.size)) (Nat.le_refl _) k0 k1 _ _

end Go.Proofs.YtkfpcohdbbhmaaaDoor
