/- Integers: the walk of Pow. Conditions: none. -/
import Derived.Test.YtfdmlfpldgobjaaGreatDoorZBiD
import Derived.Test.YtfdmlfpldgobjaaGreatDoorZNtA
import Derived.Test.YtfdmlfpldgobjaaGreatDoorSh1
import Derived.Laws.IdiomCopy
import Derived.Lib.EndianMore
import Derived.Test.YtfdmlfpldgobjaaGreatDoorSh2
import Derived.Lib.OthersKept
set_option linter.unusedVariables false
set_option linter.unusedSimpArgs false
namespace Go.Proofs.YtfdmlfpldgobjaaGreatDoor
open Go.RowKit Big
end Go.Proofs.YtfdmlfpldgobjaaGreatDoor
/- Integers: the walk of Digits. Conditions: none. -/
namespace Go.Proofs.YtfdmlfpldgobjaaGreatDoor
open Go.RowKit Big
theorem Mg.grown {w w' : World} {A : Option Addr} {c : Nat} {xs : List Nat} {row : Option Nat} (h : Mg w A c xs) (hg : w.grownBy w' row) (hne : 0 < xs.length → ∀ p, A = some p → some p.block ≠ row) : Mg w' A c xs :=
 ⟨h.cap, h.max, h.ok, fun hl => by
  obtain ⟨b, o, e, hB, hc⟩ := h.rd hl
  exact ⟨b, o, e, Nat.lt_of_lt_of_le hB hg.size, fun j hj => (World.cell?_of_block (a := ⟨b, o + j, none⟩) (hg.block b hB (hne hl _ e))).trans (hc j hj)⟩⟩
theorem rd_one {α : Type} (f : α → Value) (w : World) (x : α) (t : TypeId) : Rd f (w.alloc (.cells #[f x] t)) (some ⟨w.heap.size, 0, none⟩) [x] :=
 Rd.of_blk (heap_alloc_new _ _) (fun j hj => by match j, hj with | 0, _ => rfl)
theorem own_ne {w : World} {base : Nat} {e : TypeId} {v : Value} {n : Nat} {xs : List Value} (h : w.ownsRow base e 1 v n xs) {g : Nat} (hg : w.heap.size ≤ g) : some g ≠ v.ownBlock := fun e => by
 have := (h.lt g e.symm).2; omega
end Go.Proofs.YtfdmlfpldgobjaaGreatDoor
/- Integers: the walk of FromDigits. Conditions: none. -/
namespace Go.Proofs.YtfdmlfpldgobjaaGreatDoor
open Go.RowKit Big
def okD (b : Nat) (l : List Int) : Prop := ∀ d ∈ l, 0 ≤ d ∧ d < (b : Int)
instance (b : Nat) (l : List Int) : Decidable (okD b l) := inferInstanceAs (Decidable (∀ d ∈ l, 0 ≤ d ∧ d < (b : Int)))
theorem scale_n (A : Option Addr) (c n m p : Nat) (w : World) (ha : Mg w A c (limbs n)) (hm : m < 4294967296) (hp : p < 4294967296) (hs : (limbs n).length ≤ 1073741824) :
  Calls Tryz.prog 75 #[.slice A (limbs n).length c, .int .u32 m, .int .u32 p] w (RetN w (n * m + p)) := by
 have := scale_any A c _ m p w ha hm hp hs; rwa [val_limbs] at this
theorem fin_bad {w W : World} (hb : Below w.heap.size w W) (err : Int) (u0 u1 : Value) :
  RetZE w 0 err (.returned (.tuple #[.agg #[.bool false, .slice none 0 0], .int .i64 err])) ((W.setCell ⟨w.heap.size, 0, none⟩ u0).setCell ⟨w.heap.size, 1, none⟩ u1) :=
 retZE_zero err (below_set (below_set hb (Nat.le_refl _) _ _) (Nat.le_refl _) _ _)
end Go.Proofs.YtfdmlfpldgobjaaGreatDoor
/- Integers: the walk of Parse. Conditions: none. -/
namespace Go.Proofs.YtfdmlfpldgobjaaGreatDoor
open Go.RowKit Big
def digit (x : UInt8) : Prop := 48 ≤ x.toNat ∧ x.toNat ≤ 57
instance (x : UInt8) : Decidable (digit x) := inferInstanceAs (Decidable (_ ∧ _))
def dvals (d : List UInt8) : List Nat := d.map fun x => x.toNat - 48
/-- what Parse answers behind the sign -/
def parD (neg : Bool) (d : List UInt8) : Int × Int :=
 if 4096 < d.length then (0, 4)
 else if d = [] ∨ (d.head? = some 48 ∧ (neg = true ∨ 1 < d.length)) then (0, 9)
 else if ∀ x ∈ d, digit x then (sg neg (ofd 10 0 (dvals d)), 0) else (0, 9)
def parE (s : List UInt8) : Int × Int := parD (Lib.hasPrefix s [45]) (Lib.trimPrefix s [45])
theorem limbs_scale_len {n m p : Nat} (hm : m < 4294967296) (hp : p < 4294967296) : (limbs (n * m + p)).length ≤ (limbs n).length + 1 := by
 rw [limbs_len_iff]
 have h := (limbs_len_iff n _).1 (Nat.le_refl _)
 rw [Nat.pow_succ]
 generalize 4294967296 ^ (limbs n).length = Q at *
 have h1 : (n + 1) * 4294967296 ≤ Q * 4294967296 := Nat.mul_le_mul_right _ h
 have h2 : n * m ≤ n * 4294967295 := Nat.mul_le_mul_left _ (by omega)
 omega
theorem Mg.iterAt {w : World} {A : Option Addr} {c : Nat} {xs : List Nat} {k : Nat} {s : ByteArray} {pos : Nat} (h : Mg w A c xs) (hk : w.heap[k]? = some (.stringIter s pos)) (pos' : Nat) : Mg (w.iterAt k s pos') A c xs :=
 ⟨h.cap, h.max, h.ok, fun hl => by
  obtain ⟨b, o, e, hB, hc⟩ := h.rd hl
  have hne : b ≠ k := by
   intro e1
   have := hc 0 hl
   subst e1
   simp [World.cell?, hk] at this
  exact ⟨b, o, e, by rw [Lib.iterAt_size]; exact hB, fun j hj => (World.cell?_of_block (a := ⟨b, o + j, none⟩) (Lib.iterAt_other w k b s pos' hne)).trans (hc j hj)⟩⟩
set_option maxRecDepth 100000 in
set_option maxHeartbeats 1000000 in
theorem Parse_any (s : ByteArray) (w : World) :
  Calls Tryz.prog 51 #[.string s] w (RetZE w (parE s.data.toList).1 (parE s.data.toList).2) := by
 have HC := hid (fun w1 => Tryz.strings_CutPrefix s ⟨#[45]⟩ w1)
 have HI := hid fun (w1 : World) (b : Bool) (R1 : Option Addr) (c1 : Nat) (P : Nat) (h1 : Mg w1 R1 c1 (limbs P)) => integer_any b R1 c1 P w1 h1
 have HS := hid fun (w1 : World) (R1 : Option Addr) (c1 P d : Nat) (h1 : Mg w1 R1 c1 (limbs P)) (hl : (limbs P).length ≤ 4096) (hd : d < 4294967296) => scale_n R1 c1 P 10 d w1 h1 (by omega) hd (by omega)
 unfold parE
 change Hid (∀ w1, Calls _ _ _ w1 fun e w' => e = .returned (.tuple #[.string ⟨(Lib.trimPrefix s.data.toList [45]).toArray⟩, .bool (Lib.hasPrefix s.data.toList [45])]) ∧ w' = w1) at HC
 generalize Lib.hasPrefix s.data.toList [45] = neg at *
 obtain ⟨D, hD⟩ : ∃ D : ByteArray, D = ⟨(Lib.trimPrefix s.data.toList [45]).toArray⟩ := ⟨_, rfl⟩
 rw [← hD] at HC
 have hD2 : Lib.trimPrefix s.data.toList [45] = D.data.toList := by rw [hD]
 rw [hD2]
 clear hD hD2
 have HZ : Hid (D.size = D.data.toList.length) := Lib.size_eq D
 have HL : Hid (D.toList = D.data.toList) := ByteArray.toList_eq D
 obtain ⟨RR, hRR⟩ : ∃ RR, RR = parD neg D.data.toList := ⟨_, rfl⟩
 rw [← hRR]
 have HR := hid hRR
 clear hRR
 by_cases h1 : 4096 < D.size
 ·have hR : RR = (0, 4) := by rw [HR.out]; unfold parD; rw [if_pos (by rw [← HZ.out]; exact h1)]
  rw [hR]
  go_enter Tryz.func51, Tryz.ntmps51
  go_wp2_with (go_at_call 74; refine (HC.out _).mono ?_; rintro e w1 ⟨rfl, rfl⟩)
  refine bodyPost_ret (v := .tuple #[.agg #[.bool false, .slice none 0 0], .int .i64 4]) ?_ rfl ?_
  ·simp [results, Tryz.results51, go_sem]
  ·exact retZE_zero _ ((Below.refl _ _).alloc (Nat.le_refl _) _)
 ·have HR1 : Hid (RR = if D.data.toList = [] ∨ (D.data.toList.head? = some 48 ∧ (neg = true ∨ 1 < D.data.toList.length)) then (0, 9) else if ∀ x ∈ D.data.toList, digit x then (sg neg (ofd 10 0 (dvals D.data.toList)), 0) else (0, 9)) := by
   unfold Hid; rw [HR.out]; unfold parD; rw [if_neg (by rw [← HZ.out]; exact h1)]
  clear HR
  by_cases h2 : D.toList = []
  ·have hR : RR = (0, 9) := by rw [HR1.out, if_pos (.inl (by rw [← HL.out]; exact h2))]
   rw [hR]
   go_enter Tryz.func51, Tryz.ntmps51
   go_wp2_with (go_at_call 74; refine (HC.out _).mono ?_; rintro e w1 ⟨rfl, rfl⟩)
   refine bodyPost_ret (v := .tuple #[.agg #[.bool false, .slice none 0 0], .int .i64 9]) ?_ rfl ?_
   ·simp [results, Tryz.results51, go_sem]
   ·exact retZE_zero _ ((Below.refl _ _).alloc (Nat.le_refl _) _)
  ·have h2b : D.toList.isEmpty = false := by simpa using h2
   have h3 : 0 < D.size := by
    rw [HZ.out]
    have := h2
    rw [HL.out] at this
    exact List.length_pos_iff.2 this
   have HH : Hid (D.data.toList.head? = some (D[0]'h3)) := by
    unfold Hid
    rw [List.head?_eq_getElem?, List.getElem?_eq_getElem (by rw [← HZ.out]; exact h3)]
    rfl
   by_cases hbad : (((D[0]'h3).toNat : Int) = 48) ∧ (neg = true ∨ 1 < D.size)
   ·have hR : RR = (0, 9) := by
     rw [HR1.out, if_pos (.inr ⟨by rw [HH.out]; congr 1; exact UInt8.toNat_inj.1 (by have := hbad.1; show _ = 48; omega), by rw [← HZ.out]; exact hbad.2⟩)]
    obtain ⟨hb0, hb1⟩ := hbad
    by_cases hn : neg = true
    ·subst hn
     rw [hR]
     go_enter Tryz.func51, Tryz.ntmps51
     go_wp2_with (go_at_call 74; refine (HC.out _).mono ?_; rintro e w1 ⟨rfl, rfl⟩)
     refine bodyPost_ret (v := .tuple #[.agg #[.bool false, .slice none 0 0], .int .i64 9]) ?_ rfl ?_
     ·simp [results, Tryz.results51, go_sem]
     ·exact retZE_zero _ ((Below.refl _ _).alloc (Nat.le_refl _) _)
    ·have hn : neg = false := by simpa using hn
     subst hn
     have hb2 : 1 < D.size := by simpa using hb1
     clear hb1
     rw [hR]
     go_enter Tryz.func51, Tryz.ntmps51
     go_wp2_with (go_at_call 74; refine (HC.out _).mono ?_; rintro e w1 ⟨rfl, rfl⟩)
     refine bodyPost_ret (v := .tuple #[.agg #[.bool false, .slice none 0 0], .int .i64 9]) ?_ rfl ?_
     ·simp [results, Tryz.results51, go_sem]
     ·exact retZE_zero _ ((Below.refl _ _).alloc (Nat.le_refl _) _)
   ·have HR2 : Hid (RR = if ∀ x ∈ D.data.toList, digit x then (sg neg (ofd 10 0 (dvals D.data.toList)), 0) else (0, 9)) := by
     unfold Hid
     rw [HR1.out, if_neg]
     rintro (h | ⟨h, h'⟩)
     ·exact h2 (by rw [HL.out]; exact h)
     ·rw [HH.out] at h
      injection h with h
      exact hbad ⟨by rw [h]; rfl, by rw [HZ.out]; exact h'⟩
    clear HR1 HH
    by_cases hb0 : ((D[0]'h3).toNat : Int) = 48
    ·have hn : neg = false := by
      cases neg with
      | false => rfl
      | true => exact absurd ⟨hb0, .inl rfl⟩ hbad
     have hb2 : ¬ 1 < D.size := fun h => hbad ⟨hb0, .inr h⟩
     subst hn
     clear hbad
     go_enter Tryz.func51, Tryz.ntmps51
     go_wp2_with (go_at_call 74; refine (HC.out _).mono ?_; rintro e w1 ⟨rfl, rfl⟩)
     clear HC
     go_loopw [6] (fun s6 wr => ∃ (i : Nat) (R : Option Addr) (cc P : Nat), s6 = .slice R (limbs P).length cc ∧ wr.heap[w.heap.size + 1]? = some (.stringIter D i) ∧ i ≤ D.size ∧ Mg wr R cc (limbs P) ∧ (limbs P).length ≤ i ∧ Below (w.heap.size + 1) (w.alloc (.cells #[.bool false, .slice none 0 0] 24)) wr ∧ Hid (P = ofd 10 0 (dvals (D.data.toList.take i))) ∧ Hid (∀ x ∈ D.data.toList.take i, digit x)) (fun _ wr => D.size - wr.iterPos (w.heap.size + 1))
     case atStart =>
      have e0 := World.iter_heap (w.alloc (.cells #[.bool false, .slice none 0 0] 24)) D 0
      simp only [World.size_alloc] at e0
      exact ⟨0, none, 0, 0, by simp [limbs_zero], e0, Nat.zero_le _, mg_nil _, by simp [limbs_zero], (Below.refl _ _).alloc (by simp) _, rfl, by unfold Hid; simp⟩
     case round =>
      obtain ⟨i, R, cc, P, rfl, hk, hi, hm, hl, hbl, hP, hok⟩ := hrel
      have hbl0 : Below (w.alloc (.cells #[.bool false, .slice none 0 0] 24)).heap.size (w.alloc (.cells #[.bool false, .slice none 0 0] 24)) wr := by simpa using hbl
      obtain ⟨p1, p2, p3⟩ := box_keep hbl0
      have bw : Below w.heap.size w wr := ((Below.refl _ _).alloc (Nat.le_refl _) _).trans (hbl0.mono (by simp))
      have hsz := hbl.size
      simp at hsz
      have hit := iterPos_of hk
      by_cases hlt : i < D.size
      ·have hget : Hid (D.data.toList.take (i + 1) = D.data.toList.take i ++ [D[i]'hlt]) := by
        unfold Hid
        rw [List.take_succ_eq_append_getElem (by rw [← HZ.out]; exact hlt)]
        rfl
       have hmem : Hid (D[i]'hlt ∈ D.data.toList) := by
        unfold Hid
        have : D[i]'hlt = D.data.toList[i]'(by rw [← HZ.out]; exact hlt) := rfl
        rw [this]
        exact List.getElem_mem _
       have hasc := fun (ha : (D[i]'hlt).toNat < 128) ty => Lib.run_next_ascii_at (P := Tryz.prog) wr _ D i ty hk hlt ha
       have hany := fun ty => Lib.run_next_any_at (P := Tryz.prog) wr _ D i ty hk hlt
       have hdec : (D[i]'hlt).toNat < 128 → (Utf8.decode D i).1 = (D[i]'hlt).toNat := fun ha => by rw [decode_ascii D i hlt ha]
       have hdech : ¬ (D[i]'hlt).toNat < 128 → 128 ≤ (Utf8.decode D i).1 := fun ha => (decode_high D i hlt (by omega)).1
       have hle := decode_le D i
       generalize D[i]'hlt = x at *
       by_cases hx : digit x
       ·have hd48 : x.toNat = x.toNat - 48 + 48 := by have := hx.1; omega
        have hd57 : x.toNat - 48 ≤ 9 := by have := hx.2; omega
        have hnx := hasc (by have := hx.2; omega)
        have hP2 : Hid (P * 10 + (x.toNat - 48) = ofd 10 0 (dvals (D.data.toList.take (i + 1)))) := by
         unfold Hid
         rw [hget.out]
         unfold dvals
         rw [List.map_append, ofd_app]
         have := hP.out
         unfold dvals at this
         rw [← this]
         rfl
        have hok2 : Hid (∀ y ∈ D.data.toList.take (i + 1), digit y) := by
         unfold Hid
         rw [hget.out]
         intro y hy
         rcases List.mem_append.1 hy with hy | hy
         ·exact hok.out y hy
         ·rw [List.mem_singleton] at hy; subst hy; exact hx
        have hwI := Lib.iterAt_heap wr _ D i (i + 1) hk
        have hblI := Lib.below_iterAt hbl (k := w.heap.size + 1) (Nat.le_refl _) D (i + 1)
        have hmI := hm.iterAt hk (i + 1)
        have hsI := Lib.iterAt_size wr (w.heap.size + 1) D (i + 1)
        clear hasc hany hdec hdech hle hget hmem hx hok hP HR2 HL
        generalize hWI : wr.iterAt (w.heap.size + 1) D (i + 1) = wI at *
        clear hWI
        generalize x.toNat - 48 = d at *
        rw [hd48] at hnx
        clear hd48
        have HC := HS.out wI R cc P d hmI (by omega) (by omega)
        have hlQ := limbs_scale_len (n := P) (m := 10) (p := d) (by omega) (by omega)
        generalize P * 10 + d = Q at *
        have HC := hid HC
        go_wp2_with (go_at_call 75; refine HC.out.mono ?_; rintro e w3 ⟨R3, c3, rfl, hr3, h3⟩)
        have hk3 := (h3.block (w.heap.size + 1) (Array.getElem?_eq_some_iff.1 hwI).1).trans hwI
        go_roundw
        case rel => exact ⟨i + 1, R3, c3, Q, rfl, hk3, hlt, hr3, by omega, hblI.trans (h3.mono (Nat.le_of_lt (Array.getElem?_eq_some_iff.1 hwI).1)), hP2, hok2⟩
        case measure => rw [iterPos_of hk3, hit]; omega
       ·have hR : RR = (0, 9) := by rw [HR2.out, if_neg (fun h => hx (h x hmem.out))]
        have hr : (Utf8.decode D i).1 < 48 ∨ 57 < (Utf8.decode D i).1 := by
         unfold digit at hx
         by_cases ha : x.toNat < 128
         ·rw [hdec ha]; omega
         ·have := hdech ha; omega
        have hblI := Lib.below_iterAt hbl0 (k := w.heap.size + 1) (by simp) D (i + (Utf8.decode D i).2)
        have bwI := Lib.below_iterAt bw (k := w.heap.size + 1) (by omega) D (i + (Utf8.decode D i).2)
        obtain ⟨q1, q2, q3⟩ := box_keep hblI
        have k0 := q1 0
        have k1 := q1 1
        simp at k0 k1
        rw [hR]
        clear hasc hdec hdech hR HR2 hget hmem hok hP HS HI HL HZ
        generalize hWI : wr.iterAt (w.heap.size + 1) D (i + (Utf8.decode D i).2) = wI at *
        clear hWI
        generalize (Utf8.decode D i).1 = r at *
        rcases hr with hr | hr
        all_goals
         go_wp2
         refine bodyPost_ret (v := .tuple #[.agg #[.bool false, .slice none 0 0], .int .i64 9]) ?_ rfl ?_
         ·simp [results, Tryz.results51, go_sem, k0, k1]
         ·exact fin_bad bwI _ _ _
      ·obtain rfl : i = D.size := by omega
       have hall : ∀ x ∈ D.data.toList, digit x := by have := hok.out; rw [HZ.out, List.take_length] at this; exact this
       have hR : RR = (sg false P, 0) := by
        rw [HR2.out, if_pos hall]
        have := hP.out
        rw [HZ.out, List.take_length] at this
        rw [← this]
       have HCI := hid (HI.out wr false R cc P hm)
       have hnx : ∀ ty, (Instr.next (.pointer (some ⟨w.heap.size + 1, 0, none⟩)) true ty).run Tryz.prog wr = _ := fun ty => Lib.run_next_end_at wr _ D _ ty hk hlt
       clear HR2 HS hall hok hP
       generalize sg false P = Z at *
       have HRZ := hid hR
       clear hR
       go_wp2_with (go_at_call 63; refine HCI.out.mono ?_; rintro e w3 ⟨R3, c3, rfl, hr3, h3⟩; obtain ⟨q1, q2, q3⟩ := box_keep (hbl0.trans (h3.mono hbl0.size)))
       have k0 := q1 0
       have k1 := q1 1
       simp at k0 k1
       refine bodyPost_ret (v := .tuple #[.agg #[.bool (decide ((Z) < 0)), .slice R3 (limbs (Int.natAbs (Z))).length c3], .int .i64 0]) ?_ rfl ?_
       ·simp [results, Tryz.results51, go_sem, k0, k1]
       ·rw [HRZ.out]
        exact fin_ze hr3 (bw.trans (h3.mono bw.size)) (Nat.le_refl _) k0 k1 _ _
    ·clear hbad
     go_enter Tryz.func51, Tryz.ntmps51
     go_wp2_with (go_at_call 74; refine (HC.out _).mono ?_; rintro e w1 ⟨rfl, rfl⟩)
     clear HC
     go_loopw [6] (fun s6 wr => ∃ (i : Nat) (R : Option Addr) (cc P : Nat), s6 = .slice R (limbs P).length cc ∧ wr.heap[w.heap.size + 1]? = some (.stringIter D i) ∧ i ≤ D.size ∧ Mg wr R cc (limbs P) ∧ (limbs P).length ≤ i ∧ Below (w.heap.size + 1) (w.alloc (.cells #[.bool false, .slice none 0 0] 24)) wr ∧ Hid (P = ofd 10 0 (dvals (D.data.toList.take i))) ∧ Hid (∀ x ∈ D.data.toList.take i, digit x)) (fun _ wr => D.size - wr.iterPos (w.heap.size + 1))
     case atStart =>
      have e0 := World.iter_heap (w.alloc (.cells #[.bool false, .slice none 0 0] 24)) D 0
      simp only [World.size_alloc] at e0
      exact ⟨0, none, 0, 0, by simp [limbs_zero], e0, Nat.zero_le _, mg_nil _, by simp [limbs_zero], (Below.refl _ _).alloc (by simp) _, rfl, by unfold Hid; simp⟩
     case round =>
      obtain ⟨i, R, cc, P, rfl, hk, hi, hm, hl, hbl, hP, hok⟩ := hrel
      have hbl0 : Below (w.alloc (.cells #[.bool false, .slice none 0 0] 24)).heap.size (w.alloc (.cells #[.bool false, .slice none 0 0] 24)) wr := by simpa using hbl
      obtain ⟨p1, p2, p3⟩ := box_keep hbl0
      have bw : Below w.heap.size w wr := ((Below.refl _ _).alloc (Nat.le_refl _) _).trans (hbl0.mono (by simp))
      have hsz := hbl.size
      simp at hsz
      have hit := iterPos_of hk
      by_cases hlt : i < D.size
      ·have hget : Hid (D.data.toList.take (i + 1) = D.data.toList.take i ++ [D[i]'hlt]) := by
        unfold Hid
        rw [List.take_succ_eq_append_getElem (by rw [← HZ.out]; exact hlt)]
        rfl
       have hmem : Hid (D[i]'hlt ∈ D.data.toList) := by
        unfold Hid
        have : D[i]'hlt = D.data.toList[i]'(by rw [← HZ.out]; exact hlt) := rfl
        rw [this]
        exact List.getElem_mem _
       have hasc := fun (ha : (D[i]'hlt).toNat < 128) ty => Lib.run_next_ascii_at (P := Tryz.prog) wr _ D i ty hk hlt ha
       have hany := fun ty => Lib.run_next_any_at (P := Tryz.prog) wr _ D i ty hk hlt
       have hdec : (D[i]'hlt).toNat < 128 → (Utf8.decode D i).1 = (D[i]'hlt).toNat := fun ha => by rw [decode_ascii D i hlt ha]
       have hdech : ¬ (D[i]'hlt).toNat < 128 → 128 ≤ (Utf8.decode D i).1 := fun ha => (decode_high D i hlt (by omega)).1
       have hle := decode_le D i
       generalize D[i]'hlt = x at *
       by_cases hx : digit x
       ·have hd48 : x.toNat = x.toNat - 48 + 48 := by have := hx.1; omega
        have hd57 : x.toNat - 48 ≤ 9 := by have := hx.2; omega
        have hnx := hasc (by have := hx.2; omega)
        have hP2 : Hid (P * 10 + (x.toNat - 48) = ofd 10 0 (dvals (D.data.toList.take (i + 1)))) := by
         unfold Hid
         rw [hget.out]
         unfold dvals
         rw [List.map_append, ofd_app]
         have := hP.out
         unfold dvals at this
         rw [← this]
         rfl
        have hok2 : Hid (∀ y ∈ D.data.toList.take (i + 1), digit y) := by
         unfold Hid
         rw [hget.out]
         intro y hy
         rcases List.mem_append.1 hy with hy | hy
         ·exact hok.out y hy
         ·rw [List.mem_singleton] at hy; subst hy; exact hx
        have hwI := Lib.iterAt_heap wr _ D i (i + 1) hk
        have hblI := Lib.below_iterAt hbl (k := w.heap.size + 1) (Nat.le_refl _) D (i + 1)
        have hmI := hm.iterAt hk (i + 1)
        have hsI := Lib.iterAt_size wr (w.heap.size + 1) D (i + 1)
        clear hasc hany hdec hdech hle hget hmem hx hok hP HR2 HL
        generalize hWI : wr.iterAt (w.heap.size + 1) D (i + 1) = wI at *
        clear hWI
        generalize x.toNat - 48 = d at *
        rw [hd48] at hnx
        clear hd48
        have HC := HS.out wI R cc P d hmI (by omega) (by omega)
        have hlQ := limbs_scale_len (n := P) (m := 10) (p := d) (by omega) (by omega)
        generalize P * 10 + d = Q at *
        have HC := hid HC
        go_wp2_with (go_at_call 75; refine HC.out.mono ?_; rintro e w3 ⟨R3, c3, rfl, hr3, h3⟩)
        have hk3 := (h3.block (w.heap.size + 1) (Array.getElem?_eq_some_iff.1 hwI).1).trans hwI
        go_roundw
        case rel => exact ⟨i + 1, R3, c3, Q, rfl, hk3, hlt, hr3, by omega, hblI.trans (h3.mono (Nat.le_of_lt (Array.getElem?_eq_some_iff.1 hwI).1)), hP2, hok2⟩
        case measure => rw [iterPos_of hk3, hit]; omega
       ·have hR : RR = (0, 9) := by rw [HR2.out, if_neg (fun h => hx (h x hmem.out))]
        have hr : (Utf8.decode D i).1 < 48 ∨ 57 < (Utf8.decode D i).1 := by
         unfold digit at hx
         by_cases ha : x.toNat < 128
         ·rw [hdec ha]; omega
         ·have := hdech ha; omega
        have hblI := Lib.below_iterAt hbl0 (k := w.heap.size + 1) (by simp) D (i + (Utf8.decode D i).2)
        have bwI := Lib.below_iterAt bw (k := w.heap.size + 1) (by omega) D (i + (Utf8.decode D i).2)
        obtain ⟨q1, q2, q3⟩ := box_keep hblI
        have k0 := q1 0
        have k1 := q1 1
        simp at k0 k1
        rw [hR]
        clear hasc hdec hdech hR HR2 hget hmem hok hP HS HI HL HZ
        generalize hWI : wr.iterAt (w.heap.size + 1) D (i + (Utf8.decode D i).2) = wI at *
        clear hWI
        generalize (Utf8.decode D i).1 = r at *
        rcases hr with hr | hr
        all_goals
         go_wp2
         refine bodyPost_ret (v := .tuple #[.agg #[.bool false, .slice none 0 0], .int .i64 9]) ?_ rfl ?_
         ·simp [results, Tryz.results51, go_sem, k0, k1]
         ·exact fin_bad bwI _ _ _
      ·obtain rfl : i = D.size := by omega
       have hall : ∀ x ∈ D.data.toList, digit x := by have := hok.out; rw [HZ.out, List.take_length] at this; exact this
       have hR : RR = (sg neg P, 0) := by
        rw [HR2.out, if_pos hall]
        have := hP.out
        rw [HZ.out, List.take_length] at this
        rw [← this]
       have HCI := hid (HI.out wr neg R cc P hm)
       have hnx : ∀ ty, (Instr.next (.pointer (some ⟨w.heap.size + 1, 0, none⟩)) true ty).run Tryz.prog wr = _ := fun ty => Lib.run_next_end_at wr _ D _ ty hk hlt
       clear HR2 HS hall hok hP
       generalize sg neg P = Z at *
       have HRZ := hid hR
       clear hR
       go_wp2_with (go_at_call 63; refine HCI.out.mono ?_; rintro e w3 ⟨R3, c3, rfl, hr3, h3⟩; obtain ⟨q1, q2, q3⟩ := box_keep (hbl0.trans (h3.mono hbl0.size)))
       have k0 := q1 0
       have k1 := q1 1
       simp at k0 k1
       refine bodyPost_ret (v := .tuple #[.agg #[.bool (decide ((Z) < 0)), .slice R3 (limbs (Int.natAbs (Z))).length c3], .int .i64 0]) ?_ rfl ?_
       ·simp [results, Tryz.results51, go_sem, k0, k1]
       ·rw [HRZ.out]
        exact fin_ze hr3 (bw.trans (h3.mono bw.size)) (Nat.le_refl _) k0 k1 _ _
end Go.Proofs.YtfdmlfpldgobjaaGreatDoor
