/- The comparison of two integers field by field (the reference's Same, the laws' same). Conditions: none. -/
import Derived.Test.YtkfpcohdbbhmaaaDoorBi16
set_option linter.unusedVariables false
set_option linter.unusedSimpArgs false
namespace Go.Proofs.YtkfpcohdbbhmaaaDoor
open Go.RowKit Big

def sameB (na nb : Bool) (xs ys : List Nat) : Bool := decide (na = nb ∧ xs = ys)
theorem sameB_self (b : Bool) (xs : List Nat) : sameB b b xs xs = true := by simp [sameB]
theorem sameB_z (x y : Int) : sameB (decide (x < 0)) (decide (y < 0)) (limbs x.natAbs) (limbs y.natAbs) = decide (x = y) := by
  unfold sameB
  rw [Bool.eq_iff_iff]
  simp only [decide_eq_true_eq, decide_eq_decide]
  constructor
  · rintro ⟨h1, h2⟩
    have := congrArg val h2
    rw [val_limbs, val_limbs] at this
    omega
  · rintro rfl
    exact ⟨Iff.rfl, rfl⟩

def RetB (w : World) (b : Bool) (e : Ending) (w' : World) : Prop := e = .returned (.bool b) ∧ Below w.heap.size w w'

def BoxAt (w : World) (g : Nat) (v0 v1 : Value) : Prop := w.cell? ⟨g, 0, none⟩ = some v0 ∧ w.cell? ⟨g, 1, none⟩ = some v1

theorem boxes2 (w : World) (X Y : Array Value) (t u : TypeId) : (∀ i, ((w.alloc (.cells X t)).alloc (.cells Y u)).cell? ⟨w.heap.size, i, none⟩ = X[i]?) ∧ (∀ i, ((w.alloc (.cells X t)).alloc (.cells Y u)).cell? ⟨w.heap.size + 1, i, none⟩ = Y[i]?) := by
  obtain ⟨p1, p2, p3, p4, p7⟩ := box2_keep (w1 := (w.alloc (.cells X t)).alloc (.cells Y u)) (Below.refl _ _)
  exact ⟨p1, p3⟩

set_option maxHeartbeats 1000000 in
theorem Same_lens (na : Bool) (A B : Option Addr) (c d : Nat) (xs ys : List Nat) (w : World) (ha : Mg w A c xs) (hb : Mg w B d ys) (h : xs.length = ys.length) :
    Calls Tryd.prog 62 #[.agg #[.bool na, .slice A xs.length c], .agg #[.bool na, .slice B ys.length d]] w (RetB w (decide (xs = ys))) := by
  have m1 := ha.cap
  have m2 := ha.max
  have m3 := hb.cap
  have m4 := hb.max
  have hl1 : ((xs.length : Int) != (ys.length : Int)) = false := by simp [h]
  have HL := hid h
  clear h
  go_enter Tryd.func62, Tryd.ntmps62
  go_wp2
  go_loopw [5] (fun i wr => ∃ k : Nat, k ≤ xs.length ∧ i = .int .i64 k ∧ Below w.heap.size w wr ∧ wr.cell? ⟨w.heap.size, 0, none⟩ = some (.bool na) ∧ wr.cell? ⟨w.heap.size, 1, none⟩ = some (.slice A xs.length c) ∧ wr.cell? ⟨w.heap.size + 1, 0, none⟩ = some (.bool na) ∧ wr.cell? ⟨w.heap.size + 1, 1, none⟩ = some (.slice B ys.length d) ∧ Hid (xs.take k = ys.take k)) (fun i _ => xs.length - (intOf i).toNat)
  case atStart =>
    obtain ⟨p1, p2⟩ := boxes2 w #[.bool na, .slice A xs.length c] #[.bool na, .slice B ys.length d] 24 24
    exact ⟨0, Nat.zero_le _, rfl, (by repeat (first | assumption | exact Below.refl _ _ | refine Below.alloc ?_ (by simp; try omega) _ | refine Below.drew ?_ | refine below_drewN ?_ _)), (p1 0).trans rfl, (p1 1).trans rfl, (p2 0).trans rfl, (p2 1).trans rfl, by unfold Hid; simp⟩
  case round =>
    obtain ⟨k, hk, rfl, hbl, p1, p2, p3, p4, heq⟩ := hrel
    by_cases h0 : k < xs.length
    · have hk2 : k < ys.length := by have := HL.out; omega
      obtain ⟨ba, oa, rfl, hba, hca⟩ := ha.rd.at_ h0
      obtain ⟨bb, ob, rfl, hbb, hcb⟩ := hb.rd.at_ hk2
      have c1 := (hbl.cell (p := ⟨ba, oa + k, none⟩) hba).trans (hca k h0)
      have c2 := (hbl.cell (p := ⟨bb, ob + k, none⟩) hbb).trans (hcb k hk2)
      unfold lim at c1 c2
      clear hca hcb
      by_cases hlt : xs[k] = ys[k]
      · have t1 : ((xs[k] : Int) != (ys[k] : Int)) = false := by simp [hlt]
        have he : Hid (xs.take (k + 1) = ys.take (k + 1)) := by
          unfold Hid
          rw [List.take_succ_eq_append_getElem h0, List.take_succ_eq_append_getElem hk2, heq.out, hlt]
        clear hlt
        go_wp2
        go_quiet (fail)
        go_wp2
        go_roundw
        case rel => exact ⟨k + 1, by omega, by go_num, (by repeat (first | exact hbl | refine Below.drew ?_ | refine below_drewN ?_ _ | refine Below.setCell ?_ (by exact Nat.le_refl _) _ | refine Below.alloc ?_ (by simp; omega) _)), p1, p2, p3, p4, he⟩
        case measure => simp [intOf]; omega
      · have t1 : ((xs[k] : Int) != (ys[k] : Int)) = true := by rw [bne_iff_ne]; omega
        have hne : decide (xs = ys) = false := by
          rw [decide_eq_false_iff_not]
          rintro rfl
          exact hlt rfl
        have HN := hid hne
        clear hlt hne
        go_wp2
        go_quiet (fail)
        go_wp2
        go_ret
        exact ⟨by rw [HN.out]; rfl, (by repeat (first | exact hbl | refine Below.drew ?_ | refine below_drewN ?_ _ | refine Below.setCell ?_ (by exact Nat.le_refl _) _ | refine Below.alloc ?_ (by simp; omega) _))⟩
    · obtain rfl : k = xs.length := by omega
      have hle : xs = ys := by
        have h1 := heq.out
        rw [List.take_length, HL.out, List.take_length] at h1
        exact h1
      have HE := hid hle
      clear hle
      go_wp2
      go_ret
      exact ⟨by rw [decide_eq_true HE.out]; rfl, hbl⟩

set_option maxHeartbeats 1000000 in
theorem Same_any (na nb : Bool) (A B : Option Addr) (c d : Nat) (xs ys : List Nat) (w : World) (ha : Mg w A c xs) (hb : Mg w B d ys) :
    Calls Tryd.prog 62 #[.agg #[.bool na, .slice A xs.length c], .agg #[.bool nb, .slice B ys.length d]] w (RetB w (sameB na nb xs ys)) := by
  by_cases h : xs.length = ys.length
  · by_cases hn : na = nb
    · subst hn
      have := Same_lens na A B c d xs ys w ha hb h
      have e : sameB na na xs ys = decide (xs = ys) := by simp [sameB]
      rw [e]
      exact this
    · have e : sameB na nb xs ys = false := by simp [sameB, hn]
      rw [e]
      clear e ha hb h
      cases na <;> cases nb <;> simp at hn
      all_goals
        go_enter Tryd.func62, Tryd.ntmps62
        go_wp2
        go_ret
        exact ⟨rfl, (by repeat (first | assumption | exact Below.refl _ _ | refine Below.alloc ?_ (by simp; try omega) _ | refine Below.drew ?_ | refine below_drewN ?_ _))⟩
  · have e : sameB na nb xs ys = false := by
      unfold sameB
      rw [decide_eq_false_iff_not]
      rintro ⟨_, rfl⟩
      exact h rfl
    have hl1 : ((xs.length : Int) != (ys.length : Int)) = true := by rw [bne_iff_ne]; omega
    rw [e]
    clear e ha hb h
    cases na <;> cases nb
    all_goals
      go_enter Tryd.func62, Tryd.ntmps62
      go_wp2
      go_ret
      exact ⟨rfl, (by repeat (first | assumption | exact Below.refl _ _ | refine Below.alloc ?_ (by simp; try omega) _ | refine Below.drew ?_ | refine below_drewN ?_ _))⟩

set_option maxHeartbeats 1000000 in
theorem same_law (na nb : Bool) (A B : Option Addr) (c d : Nat) (xs ys : List Nat) (w : World) (ha : Mg w A c xs) (hb : Mg w B d ys) :
    Calls Tryd.prog 19 #[.agg #[.bool na, .slice A xs.length c], .agg #[.bool nb, .slice B ys.length d]] w (RetB w (sameB na nb xs ys)) := by
  have HS := hid fun (w1 : World) (h : Below w.heap.size w w1) => Same_any na nb A B c d xs ys w1 (ha.below h) (hb.below h)
  clear ha hb
  generalize sameB na nb xs ys = r at *
  generalize xs.length = lx at *
  generalize ys.length = ly at *
  go_enter Tryd.func19, Tryd.ntmps19
  go_wp2_with fail
  refine (HS.out _ (by repeat (first | assumption | exact Below.refl _ _ | refine Below.alloc ?_ (by simp; try omega) _ | refine Below.drew ?_ | refine below_drewN ?_ _))).mono ?_
  rintro e w1 ⟨rfl, h1⟩
  go_wp2
  go_ret
  exact ⟨rfl, Below.trans (b := _) (by repeat (first | assumption | exact Below.refl _ _ | refine Below.alloc ?_ (by simp; try omega) _ | refine Below.drew ?_ | refine below_drewN ?_ _)) (h1.mono (by simp; omega))⟩

theorem same_z (x y : Int) (A B : Option Addr) (c d : Nat) (w : World) (ha : Mg w A c (limbs x.natAbs)) (hb : Mg w B d (limbs y.natAbs)) :
    Calls Tryd.prog 19 #[.agg #[.bool (decide ((x) < 0)), .slice A (limbs (Int.natAbs (x))).length c], .agg #[.bool (decide ((y) < 0)), .slice B (limbs (Int.natAbs (y))).length d]] w (RetB w (decide (x = y))) := by
  have := same_law (decide (x < 0)) (decide (y < 0)) A B c d _ _ w ha hb
  rwa [sameB_z] at this

end Go.Proofs.YtkfpcohdbbhmaaaDoor
