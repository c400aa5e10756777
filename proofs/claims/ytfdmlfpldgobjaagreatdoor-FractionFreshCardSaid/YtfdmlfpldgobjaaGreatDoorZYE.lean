/- The writers of strings.Builder (lines of the shelf's walks, turned to this program's copyCheck). Conditions: none. -/
import Derived.Test.YtfdmlfpldgobjaaGreatDoorSh3
import Derived.Lib.Builder
import Derived.Lib.AppendStr
import Derived.Lib.UnsafeStr
import Derived.Laws.Externs
import Derived.Test.YtfdmlfpldgobjaaGreatDoorZYD
import Derived.Test.YtfdmlfpldgobjaaGreatDoorZNtA
import Derived.Lib.SmallJoins
import Derived.Lib.AppendIntMem
import Derived.Test.YtfdmlfpldgobjaaGreatDoorZYC
import Derived.Test.YtfdmlfpldgobjaaGreatDoorZBiD
set_option linter.unusedVariables false
set_option linter.unusedSimpArgs false
namespace Go.Proofs.YtfdmlfpldgobjaaGreatDoor
open Go.RowKit
theorem bsize : (Tryz.prog.info? 89).map (·.size) = some 2 := by kernel_rfl
theorem bbyte : (Tryz.prog.info? 5).map (fun i => (i.zero, i.size, i.bytes)) = some (some (.int .u8 0), 1, 1) := by kernel_rfl
set_option maxHeartbeats 1000000 in
set_option maxRecDepth 100000 in
theorem copyCheck_used (b : Nat) (w : World) (h0 : w.cell? ⟨b, 0, none⟩ = some (.pointer (some ⟨b, 0, none⟩))) :
  Calls Tryz.prog 106 #[.pointer (some ⟨b, 0, none⟩)] w fun e w' => e = .returned (.tuple #[]) ∧ w' = w := by
 obtain ⟨j, hj, _⟩ := Option.map_eq_some_iff.1 bsize
 go_enter Tryz.func106, Tryz.ntmps106
 go_wp2
 rw [Lib.run_neq_ptr_same w _ Tryz.underlying86 hj]
 go_wp2
 go_end0
 exact ⟨rfl, rfl⟩
set_option maxHeartbeats 1000000 in
set_option maxRecDepth 100000 in
theorem copyCheck_fresh (b : Nat) (w : World) (h0 : w.cell? ⟨b, 0, none⟩ = some (.pointer none)) (hsh : w.shape? b = some (89, 2)) (hfz : w.frozen? ⟨b, 0, none⟩ = false) :
  Calls Tryz.prog 106 #[.pointer (some ⟨b, 0, none⟩)] w fun e w' => e = .returned (.tuple #[]) ∧ w' = w.setCell ⟨b, 0, none⟩ (.pointer (some ⟨b, 0, none⟩)) := by
 obtain ⟨j, hj, hjs⟩ := Option.map_eq_some_iff.1 bsize
 go_enter Tryz.func106, Tryz.ntmps106
 go_wp2
 rw [Lib.run_to_unsafe w ⟨b, 0, none⟩ Tryz.underlying86 Tryz.underlying115 hj (by rw [hjs]; decide) hsh (Nat.zero_lt_succ 1)]
 simp only [Result.andThen]
 rw [Oper.upon_value]
 go_wp2
 rw [run_callFunc_extern Tryz.func120 (by kernel_rfl) (by kernel_rfl) (by kernel_rfl) (e := Extern.AbiNoEscape.same) (by kernel_rfl)]
 rw [Lib.run_noEscape]
 simp only [Result.andThen]
 rw [Oper.upon_value]
 go_wp2
 rw [Lib.run_from_unsafe w ⟨b, 0, none⟩ Tryz.underlying115 Tryz.underlying86 hj hsh (by kernel_rfl)]
 simp only [Result.andThen]
 rw [Oper.upon_value]
 go_wp2
 go_end0
 exact ⟨rfl, rfl⟩
theorem copyCheck_any (B b : Nat) (bs : List Value) (w : World) (h : Lib.IsBuilder 89 5 B b bs w) :
  Calls Tryz.prog 106 #[.pointer (some ⟨b, 0, none⟩)] w fun e w' => e = .returned (.tuple #[]) ∧ (Lib.BuilderAt 89 5 B b (.pointer (some ⟨b, 0, none⟩)) bs w' ∧ Below B w w') := by
 rcases h with h | h
 ·refine (copyCheck_fresh b w h.cell0 h.shape h.frozen0).mono ?_
  rintro e w' ⟨rfl, rfl⟩
  exact ⟨rfl, h.used _, (Below.refl B w).setCell (p := ⟨b, 0, none⟩) h.1 _⟩
 ·refine (copyCheck_used b w h.cell0).mono ?_
  rintro e w' ⟨rfl, rfl⟩
  exact ⟨rfl, h, Below.refl B _⟩
set_option maxHeartbeats 2000000 in
set_option maxRecDepth 100000 in
theorem WriteByte_any (B b : Nat) (bs : List Value) (c : Int) (w : World) (h : Lib.IsBuilder 89 5 B b bs w) (hlen : bs.length + 1 ≤ 140737488355328) (hBw : B ≤ w.heap.size) :
  Calls Tryz.prog 78 #[.pointer (some ⟨b, 0, none⟩), .int .u8 c] w fun e w' => e = .returned .nilIface ∧ (Lib.BuilderAt 89 5 B b (.pointer (some ⟨b, 0, none⟩)) (bs ++ [.int .u8 c]) w' ∧ Below B w w') := by
 obtain ⟨i0, hi, hz0, hz1, hz2⟩ := info_parts bbyte
 go_enter Tryz.func78, Tryz.ntmps78
 go_wp2_with (go_at_call 106; refine (copyCheck_any B b bs _ h).mono ?_)
 rintro e w1 ⟨rfl, h1, hb1⟩
 obtain ⟨hB, v, hbk, hown, hne⟩ := h1
 have c0 : w1.cell? ⟨b, 0, none⟩ = some (.pointer (some ⟨b, 0, none⟩)) := by rw [Lib.cell_of_heap hbk]; rfl
 have c1 : w1.cell? ⟨b, 1, none⟩ = some v := by rw [Lib.cell_of_heap hbk]; rfl
 go_wp2_with (at_builtin; refine wpList_append_own _ rfl _ _ 87 rfl B 5 i0 (.int .u8 0) 1 1 Tryz.underlying87 hi hz0 hz1 hz2 rfl (by decide) _ _ _ rfl (hown.alloc _) ⟨w1.heap.size, 0, none⟩ 1 1 [.int .u8 c] rfl rfl ?c1 ?c2 ?c3 ?c4 ?c5 ?_)
 case c1 =>
  intro j u hj
  match j, hj with
  | 0, hj => simp at hj; subst hj; simp [Addr.add]
 case c2 => intro u hu; simp at hu; subst hu; rfl
 case c3 => unfold maxLen; omega
 case c4 => omega
 case c5 => have := hb1.size; simp; omega
 intro v' w2 hown' hgrow _
 have hlt : b < w1.heap.size := (Array.getElem?_eq_some_iff.1 hbk).1
 have hb2 : w2.heap[b]? = some (.cells #[.pointer (some ⟨b, 0, none⟩), v] 89 (0, 0)) := by
  rw [hgrow.block b (by simp; omega) (fun e => hne e.symm), Lib.alloc_old w1 _ b hlt]
  exact hbk
 have d0 : w2.cell? ⟨b, 0, none⟩ = some (.pointer (some ⟨b, 0, none⟩)) := by rw [Lib.cell_of_heap hb2]; rfl
 have d1 : w2.cell? ⟨b, 1, none⟩ = some v := by rw [Lib.cell_of_heap hb2]; rfl
 have f1 : w2.frozen? ⟨b, 1, none⟩ = false := Lib.frozen_of_heap hb2 1
 obtain ⟨g, cap, rfl⟩ : ∃ g cap, v' = .slice (some ⟨g, 0, none⟩) (bs.length + 1) cap := by
  rcases hown'.2 with ⟨_, h0⟩ | ⟨g, cap, cur, hv, _⟩
  ·omega
  ·exact ⟨g, cap, hv⟩
 go_wp2
 go_ret
 refine ⟨rfl, ?_, ?_⟩
 ·exact Lib.BuilderAt.put (T := 89) (e := 5) hB hb2 (bs' := bs ++ [.int .u8 c]) (by simpa using hown') (by decide)
 ·exact ((hb1.alloc (by have := hb1.size; omega) _).grown hgrow (by have := hb1.size; simp; omega) (fun k hk => (hown.lt k hk).1)).setCell (p := ⟨b, 1, none⟩) hB _
set_option maxHeartbeats 2000000 in
set_option maxRecDepth 100000 in
theorem WriteString_any (B b : Nat) (bs : List Value) (s : ByteArray) (w : World) (h : Lib.IsBuilder 89 5 B b bs w) (hlen : bs.length + s.size ≤ 140737488355328) (hBw : B ≤ w.heap.size) :
  Calls Tryz.prog 80 #[.pointer (some ⟨b, 0, none⟩), .string s] w fun e w' => e = .returned (.tuple #[.int .i64 s.size, .nilIface]) ∧ (Lib.BuilderAt 89 5 B b (.pointer (some ⟨b, 0, none⟩)) (bs ++ Lib.strCells s) w' ∧ Below B w w') := by
 obtain ⟨i0, hi, hz0, hz1, hz2⟩ := info_parts bbyte
 go_enter Tryz.func80, Tryz.ntmps80
 go_wp2_with (go_at_call 106; refine (copyCheck_any B b bs _ h).mono ?_)
 rintro e w1 ⟨rfl, h1, hb1⟩
 obtain ⟨hB, v, hbk, hown, hne⟩ := h1
 have c0 : w1.cell? ⟨b, 0, none⟩ = some (.pointer (some ⟨b, 0, none⟩)) := by rw [Lib.cell_of_heap hbk]; rfl
 have c1 : w1.cell? ⟨b, 1, none⟩ = some v := by rw [Lib.cell_of_heap hbk]; rfl
 go_wp2_with (at_builtin; refine Lib.wpList_append_own_string _ rfl _ _ 87 9 rfl B 5 i0 Tryz.underlying87 Tryz.underlying9 hi hz0 hz1 hz2 _ _ _ rfl hown s rfl ?c3 ?c4 ?c5 ?_)
 case c3 => unfold maxLen; omega
 case c4 => omega
 case c5 => have := hb1.size; omega
 intro v' w2 hown' hgrow _
 have hlt : b < w1.heap.size := (Array.getElem?_eq_some_iff.1 hbk).1
 have hb2 : w2.heap[b]? = some (.cells #[.pointer (some ⟨b, 0, none⟩), v] 89 (0, 0)) := by
  rw [hgrow.block b hlt (fun e => hne e.symm)]
  exact hbk
 have d0 : w2.cell? ⟨b, 0, none⟩ = some (.pointer (some ⟨b, 0, none⟩)) := by rw [Lib.cell_of_heap hb2]; rfl
 have d1 : w2.cell? ⟨b, 1, none⟩ = some v := by rw [Lib.cell_of_heap hb2]; rfl
 have f1 : w2.frozen? ⟨b, 1, none⟩ = false := Lib.frozen_of_heap hb2 1
 obtain ⟨ao, n', cap, rfl⟩ : ∃ ao n' cap, v' = .slice ao n' cap := by
  rcases hown'.2 with ⟨hv, _⟩ | ⟨g, cap, cur, hv, _⟩
  ·exact ⟨_, _, _, hv⟩
  ·exact ⟨_, _, _, hv⟩
 go_wp2
 go_ret2
 refine ⟨rfl, ?_, ?_⟩
 ·exact Lib.BuilderAt.put (T := 89) (e := 5) hB hb2 (bs' := bs ++ Lib.strCells s) (by simpa [Lib.strCells_length] using hown') (by decide)
 ·exact (hb1.grown hgrow (by have := hb1.size; omega) (fun k hk => (hown.lt k hk).1)).setCell (p := ⟨b, 1, none⟩) hB _
end Go.Proofs.YtfdmlfpldgobjaaGreatDoor
/- Integers: the walk of Format. Conditions: none. -/
namespace Go.Proofs.YtfdmlfpldgobjaaGreatDoor
open Go.RowKit Big
def PowTab (w : World) : Prop := Lib.TabIs Tryz.prog w "internal/strconv.uint64pow10" .u64 Lib.pow10Tab
def RetS (w : World) (l : List UInt8) (e : Ending) (w' : World) : Prop := e = .returned (.string ⟨l.toArray⟩) ∧ Below w.heap.size w w'
theorem Format_zero (A : Option Addr) (c : Nat) (w : World) (ha : Mg w A c (limbs 0)) :
  Calls Tryz.prog 55 #[.agg #[.bool false, .slice A (limbs 0).length c]] w (RetS w [48]) := by
 have HX := hid fun (w1 : World) (h1 : Below w.heap.size w w1) => by
  have h := Valid_t (z := 0) (ha.below h1) (by simp [fits, limbs_zero])
  rw [show decide ((0 : Int) < 0) = false from rfl, show Int.natAbs 0 = 0 from rfl] at h
  exact h
 rw [limbs_zero] at *
 clear ha
 go_enter Tryz.func55, Tryz.ntmps55
 go_wp2_with fail
 refine (HX.out _ (by repeat (first | assumption | exact Bv _ _ | refine Ba ?_ (by simp; try omega) _ | refine Bd ?_ | refine Bn ?_ _))).mono ?_
 rintro e w1 ⟨rfl, h1⟩
 obtain ⟨p1, p2, p3⟩ := box_keep h1
 have b1 : Below w.heap.size w w1 := Below.trans (b := _) (by repeat (first | assumption | exact Bv _ _ | refine Ba ?_ (by simp; try omega) _ | refine Bd ?_ | refine Bn ?_ _)) (h1.mono (by simp))
 go_wp2
 go_ret
 exact ⟨rfl, b1⟩
theorem rd_lim {w : World} {base : Nat} {A : Option Addr} {c : Nat} {xs : List Nat} (h : w.ownsRow base 61 1 (.slice A xs.length c) xs.length (xs.map lim)) : Rd lim w A xs := by
 obtain ⟨A', c', e, _, _, hr⟩ := own_rd h
 injection e with e1 e2 e3
 subst e1
 exact hr
theorem digs_len {b : Nat} (hb : 65536 ≤ b) (k : Nat) : ∀ n, n < 65536 ^ k → (digs b n).length ≤ k := by
 induction k with
 | zero => intro n h; simp at h; subst h; rw [digs_zero]; simp
 | succ k ih =>
  intro n h
  by_cases h0 : n = 0
  ·subst h0; rw [digs_zero]; simp
  ·rw [digs_pos (by omega) h0, List.length_cons]
   have : n / b < 65536 ^ k := by
    rw [Nat.div_lt_iff_lt_mul (by omega)]
    rw [Nat.pow_succ] at h
    exact Nat.lt_of_lt_of_le h (Nat.mul_le_mul_left _ hb)
   have := ih _ this
   omega
theorem digs_len_limbs {b n : Nat} (hb : 65536 ≤ b) : (digs b n).length ≤ 2 * (limbs n).length := by
 apply digs_len hb
 have h := (limbs_len_iff n _).1 (Nat.le_refl _)
 rw [Nat.pow_mul]
 exact h
theorem PowTab.below {w w' : World} (h : PowTab w) (hb : Below w.heap.size w w') : PowTab w' := Go.Joins.tab_stays (g := 1) (by kernel_rfl) h hb (Nat.le_refl _)
theorem bld_below {B b : Nat} {bs : List Value} {w w' : World} (h : Lib.IsBuilder 89 5 B b bs w) (hb : Below w.heap.size w w') : Lib.IsBuilder 89 5 B b bs w' := by
 have k : ∀ p, Lib.BuilderAt 89 5 B b p bs w → Lib.BuilderAt 89 5 B b p bs w' := by
  rintro p ⟨h1, v, h2, h3, h4⟩
  exact ⟨h1, v, (hb.block b (Array.getElem?_eq_some_iff.1 h2).1).trans h2, own_below h3 hb, h4⟩
 exact h.elim (fun h => .inl (k _ h)) (fun h => .inr (k _ h))
theorem byteCells_app (a b : List UInt8) : Lib.byteCells (a ++ b) = Lib.byteCells a ++ Lib.byteCells b := by simp [Lib.byteCells]
theorem Itoa_nat (n : Nat) (hn : n ≤ 4294967295) (w : World) (htab : PowTab w) : Calls Tryz.prog 79 #[.int .i64 n] w fun e w' => e = .returned (.string ⟨(Lib.decDigits n).toArray⟩) ∧ Below w.heap.size w w' := by
 refine (Tryz.strconv_Itoa n (by omega) (by omega) w htab).mono ?_
 rintro e w' ⟨rfl, k, os, rfl⟩
 exact ⟨by rw [Lib.itoa_nonneg], Lib.below_grow _ _ (Nat.le_refl _) _ _⟩
set_option maxRecDepth 100000 in
set_option maxHeartbeats 2000000 in
theorem Format_ok (x : Int) (A : Option Addr) (c : Nat) (w : World) (ha : Mg w A c (limbs x.natAbs)) (fx : fits x) (h0 : x ≠ 0) (htab : PowTab w) :
  Calls Tryz.prog 55 #[.agg #[.bool (decide ((x) < 0)), .slice A (limbs (Int.natAbs (x))).length c]] w (RetS w (fmtZ x)) := by
 have HX := hid fun (w1 : World) (h1 : Below w.heap.size w w1) => Valid_t (ha.below h1) fx
 have HD := hid fun (w1 : World) (A1 : Option Addr) (c1 m : Nat) (h1 : Mg w1 A1 c1 (limbs m)) (hl : (limbs m).length ≤ 512) => by
  have h := divideSmall_fr A1 c1 (limbs m) 1000000000 w1 h1 (by omega) (by omega) (by omega)
  rw [val_limbs] at h
  exact h
 have HF := hid (show fmtZ x = (if decide (x < 0) then [45] else []) ++ Lib.decDigits x.natAbs by unfold fmtZ; by_cases h : x < 0 <;> simp [h])
 generalize fmtZ x = RR at *
 have hn : x.natAbs ≠ 0 := by omega
 have hf : (limbs x.natAbs).length ≤ 512 := fx
 have hz0 : (((limbs x.natAbs).length : Int) == 0) = false := by rw [limbs_pos hn]; simp; omega
 rw [← outC_digs x.natAbs hn] at HF
 have HDL := hid (Nat.le_trans (digs_len_limbs (b := 1000000000) (n := x.natAbs) (by omega)) (show _ ≤ 1024 by omega))
 clear fx h0
 generalize decide (x < 0) = bx at *
 generalize x.natAbs = n at *
 go_enter Tryz.func55, Tryz.ntmps55
 go_wp2_with fail
 refine (HX.out _ (by repeat (first | assumption | exact Bv _ _ | refine Ba ?_ (by simp; try omega) _ | refine Bd ?_ | refine Bn ?_ _))).mono ?_
 rintro e w1 ⟨rfl, h1⟩
 obtain ⟨p1, p2, p3⟩ := box_keep h1
 have b1 : Below w.heap.size w w1 := Below.trans (b := _) (by repeat (first | assumption | exact Bv _ _ | refine Ba ?_ (by simp; try omega) _ | refine Bd ?_ | refine Bn ?_ _)) (h1.mono (by simp))
 have ha1 := ha.below b1
 clear HX ha
 go_wp2_with fail
 go_loopg [3, 4] n (fun g s3 s4 wr => ∃ (v : Value) (L : List Nat) (R : Option Addr) (cc m : Nat), s3 = v ∧ wr.ownsRow w1.heap.size 61 1 v L.length (L.map lim) ∧ s4 = .slice R (limbs m).length cc ∧ Mg wr R cc (limbs m) ∧ (limbs m).length ≤ 512 ∧ Ok L ∧ Below w1.heap.size w1 wr ∧ Hid (g = m) ∧ Hid (digs 1000000000 n = L ++ digs 1000000000 m) ∧ Hid (0 < (limbs m).length → ∀ p, R = some p → some p.block ≠ v.ownBlock))
 case atStart => exact ⟨_, [], A, c, n, rfl, World.ownsRow_nil _ _ _ _, rfl, ha1, hf, (fun y hy => absurd hy (by simp)), Below.refl _ _, rfl, rfl, fun _ p _ => by simp [Value.ownBlock]⟩
 case round =>
  clear ha1 hz0 hn
  obtain ⟨v, L, R, cc, m, rfl, hown, rfl, hr, hl, hokL, hbl, hg, hd, hne⟩ := hrel
  obtain ⟨Av, cv, rfl, hcv, hcm, hrd⟩ := own_rd hown
  obtain ⟨q1, q2, q3⟩ := box_keep (h1.trans (hbl.mono h1.size))
  have hb2 := b1.trans (hbl.mono b1.size)
  have hsz1 := hbl.size
  have hL : L.length ≤ 1024 := by have := HDL.out; rw [hd.out] at this; simp at this; omega
  by_cases hm : m = 0
  ·subst hm
   rw [limbs_zero] at *
   simp only [List.length_nil]
   have hLn : Hid (digs 1000000000 n = L) := by have := hd.out; rw [digs_zero, List.append_nil] at this; exact this
   have hrd2 := rd_lim hown
   clear hr hne hg hd HD
   obtain ⟨wo, rfl⟩ : ∃ wo : World, wo = wr := ⟨_, rfl⟩
   have hfr : Lib.IsBuilder 89 5 wo.heap.size wo.heap.size [] (wo.alloc (.cells #[.pointer none, .slice none 0 0] 89)) := .inl ⟨Nat.le_refl _, _, heap_alloc_new _ _, World.ownsRow_nil _ _ _ _, by simp [Value.ownBlock]⟩
   cases bx
   ·go_wp2_with fail
    go_loopw [7] (fun s7 wr => ∃ k : Nat, s7 = .int .i64 ((k : Int) - 1) ∧ k ≤ L.length ∧ Below wo.heap.size wo wr ∧ Hid (Lib.IsBuilder 89 5 wo.heap.size wo.heap.size (Lib.byteCells ([] ++ outC (L.drop k))) wr)) (fun s7 _ => (intOf s7 + 1).toNat)
    case atStart => exact ⟨L.length, rfl, Nat.le_refl _, (Below.refl _ _).alloc (Nat.le_refl _) _, by unfold Hid; rw [List.drop_length]; exact hfr⟩
    case round =>
     obtain ⟨k, rfl, hk, hw2, hbd⟩ := hrel
     by_cases hk0 : 0 < k
     ·have hk1 : k - 1 < L.length := by omega
      obtain ⟨bk, o, rfl, hbk, hc⟩ := hrd2.at_ hk1
      have c1 := (hw2.cell (p := ⟨bk, o + (k - 1), none⟩) hbk).trans (hc (k - 1) hk1)
      unfold lim at c1
      clear hc
      have hc9 : L[k - 1] < 1000000000 := digs_lt (by omega) n _ (by rw [hLn.out]; exact List.getElem_mem hk1)
      have hdr : Hid (L.drop (k - 1) = L[k - 1] :: L.drop k) := by
       unfold Hid
       rw [List.drop_eq_getElem_cons hk1, show k - 1 + 1 = k by omega]
      have hpad := (padk_eq 8 L[k - 1] (by omega)).1
      have hIt := hid (Itoa_nat L[k - 1] (by omega) wr (htab.below (hb2.trans (hw2.mono hb2.size))))
      generalize L[k - 1] = cc9 at *
      obtain ⟨D, hD⟩ : ∃ D : ByteArray, D = ⟨(Lib.decDigits cc9).toArray⟩ := ⟨_, rfl⟩
      rw [← hD] at hIt
      have hDs : D.size = (Lib.decDigits cc9).length := by rw [hD]; simp [ByteArray.size]
      have hDl : Hid (D.data.toList = Lib.decDigits cc9) := by unfold Hid; rw [hD]
      rw [← hDs] at hpad
      have HDs := hid hDs
      clear hD hDs
      have hbl9 : (Lib.byteCells ([] ++ outC (L.drop k))).length ≤ 10000 := by
       rw [Lib.byteCells_length]
       have := outC_len (L.drop k) (fun d hd => digs_lt (by omega) n _ (by rw [hLn.out]; exact List.mem_of_mem_drop hd))
       simp at this ⊢
       omega
      have hws := fun (w3 : World) (bs : List Value) (s : ByteArray) (hb : Lib.IsBuilder 89 5 wo.heap.size wo.heap.size bs w3) (h1 : bs.length + s.size ≤ 140737488355328) (h2 : wo.heap.size ≤ w3.heap.size) => WriteString_any wo.heap.size wo.heap.size bs s w3 hb h1 h2
      have HWS := hid hws
      clear hws
      by_cases hlast : k < L.length
      ·go_wp2_with (first | (go_at_call 79; refine hIt.out.mono ?_; rintro e w3 ⟨rfl, h3⟩))
       have hrc : ((9 : Int) - (D.size : Int)) = ((9 - D.size : Nat) : Int) := by omega
       have hRp := Tryz.strings_Repeat ⟨#[48]⟩ (9 - D.size) w3 (by omega) (by show 1 * _ ≤ _; omega)
       rw [← hrc] at hRp
       have HRp := hid hRp
       clear hRp hrc
       have hb3 := bld_below hbd.out h3
       have hs3 := h3.size
       have hso := hw2.size
       refine HRp.out.mono ?_
       rintro e w4 ⟨rfl, h4⟩
       have hb4 := bld_below hb3 h4
       have hs4 := h4.size
       obtain ⟨Z9, hZ⟩ : ∃ Z9 : ByteArray, Z9 = ⟨(Lib.repeatL (⟨#[48]⟩ : ByteArray).data.toList (9 - D.size)).toArray⟩ := ⟨_, rfl⟩
       rw [← hZ]
       have hZs : Z9.size = 9 - D.size := by rw [hZ]; exact repeatL_len _
       have hZl : Hid (Z9.data.toList = Lib.repeatL [48] (9 - D.size)) := by unfold Hid; rw [hZ]
       clear hZ
       have hW5 := hid (HWS.out w4 _ Z9 hb4 (by omega) (by omega))
       go_wp2_with fail
       refine hW5.out.mono ?_
       rintro e w5 ⟨rfl, hb5, h5⟩
       have hs5 := h5.size
       have hW6 := hid (HWS.out w5 _ D (.inr hb5) (by rw [List.length_append, Lib.strCells_length]; omega) (by omega))
       go_wp2_with (go_at_call 80; refine hW6.out.mono ?_; rintro e w6 ⟨rfl, hb6, h6⟩)
       go_roundw
       case rel => exact ⟨k - 1, val_i (by omega), by omega, (((hw2.trans (h3.mono hso)).trans (h4.mono (by omega))).trans h5).trans h6, .inr (by
        rw [hdr.out, outC, if_neg (by intro h; have := congrArg List.length h; simp at this; omega)]
        rw [Lib.strCells_eq, Lib.strCells_eq, hZl.out, hDl.out, HDs.out, ← byteCells_app, ← byteCells_app] at hb6
        simpa [List.append_assoc] using hb6)⟩
       case measure => simp [intOf]; omega
      ·obtain rfl : k = L.length := by omega
       have hW6 := hid (fun (w3 : World) (h3 : Below wr.heap.size wr w3) => HWS.out w3 _ D (bld_below hbd.out h3) (by omega) (Nat.le_trans hw2.size h3.size))
       go_wp2_with (first | (go_at_call 80; refine (hW6.out _ h3).mono ?_; rintro e w6 ⟨rfl, hb6, h6⟩) | (go_at_call 79; refine hIt.out.mono ?_; rintro e w3 ⟨rfl, h3⟩))
       go_roundw
       case rel => exact ⟨L.length - 1, val_i (by omega), by omega, (hw2.trans (h3.mono hw2.size)).trans h6, .inr (by
        rw [hdr.out, outC, if_pos (by simp)]
        rw [Lib.strCells_eq, hDl.out, ← byteCells_app] at hb6
        simpa [List.append_assoc] using hb6)⟩
       case measure => simp [intOf]; omega
     ·obtain rfl : k = 0 := by omega
      have hS := Tryz.Builder_String_any wo.heap.size wo.heap.size _ wr hbd.out hw2.size
      have hS := hid hS
      go_wp2_with (go_at_call 82; refine hS.out.mono ?_; rintro e w3 ⟨rfl, h3⟩)
      go_ret
      exact ⟨by rw [HF.out, hLn.out]; rfl, (hb2.trans (hw2.mono hb2.size)).trans (h3.mono hb2.size)⟩
   ·have HWB := hid (WriteByte_any wo.heap.size wo.heap.size [] 45 _ hfr (by simp) (by simp))
    go_wp2_with (go_at_call 78; refine HWB.out.mono ?_; rintro e w5 ⟨rfl, hb5, h5⟩)
    go_loopw [7] (fun s7 wr => ∃ k : Nat, s7 = .int .i64 ((k : Int) - 1) ∧ k ≤ L.length ∧ Below wo.heap.size wo wr ∧ Hid (Lib.IsBuilder 89 5 wo.heap.size wo.heap.size (Lib.byteCells ([45] ++ outC (L.drop k))) wr)) (fun s7 _ => (intOf s7 + 1).toNat)
    case atStart => exact ⟨L.length, rfl, Nat.le_refl _, ((Below.refl _ _).alloc (Nat.le_refl _) _).trans h5, by unfold Hid; rw [List.drop_length]; exact (.inr hb5 : Lib.IsBuilder 89 5 wo.heap.size wo.heap.size _ w5)⟩
    case round =>
     obtain ⟨k, rfl, hk, hw2, hbd⟩ := hrel
     by_cases hk0 : 0 < k
     ·have hk1 : k - 1 < L.length := by omega
      obtain ⟨bk, o, rfl, hbk, hc⟩ := hrd2.at_ hk1
      have c1 := (hw2.cell (p := ⟨bk, o + (k - 1), none⟩) hbk).trans (hc (k - 1) hk1)
      unfold lim at c1
      clear hc
      have hc9 : L[k - 1] < 1000000000 := digs_lt (by omega) n _ (by rw [hLn.out]; exact List.getElem_mem hk1)
      have hdr : Hid (L.drop (k - 1) = L[k - 1] :: L.drop k) := by
       unfold Hid
       rw [List.drop_eq_getElem_cons hk1, show k - 1 + 1 = k by omega]
      have hpad := (padk_eq 8 L[k - 1] (by omega)).1
      have hIt := hid (Itoa_nat L[k - 1] (by omega) wr (htab.below (hb2.trans (hw2.mono hb2.size))))
      generalize L[k - 1] = cc9 at *
      obtain ⟨D, hD⟩ : ∃ D : ByteArray, D = ⟨(Lib.decDigits cc9).toArray⟩ := ⟨_, rfl⟩
      rw [← hD] at hIt
      have hDs : D.size = (Lib.decDigits cc9).length := by rw [hD]; simp [ByteArray.size]
      have hDl : Hid (D.data.toList = Lib.decDigits cc9) := by unfold Hid; rw [hD]
      rw [← hDs] at hpad
      have HDs := hid hDs
      clear hD hDs
      have hbl9 : (Lib.byteCells ([45] ++ outC (L.drop k))).length ≤ 10000 := by
       rw [Lib.byteCells_length]
       have := outC_len (L.drop k) (fun d hd => digs_lt (by omega) n _ (by rw [hLn.out]; exact List.mem_of_mem_drop hd))
       simp at this ⊢
       omega
      have hws := fun (w3 : World) (bs : List Value) (s : ByteArray) (hb : Lib.IsBuilder 89 5 wo.heap.size wo.heap.size bs w3) (h1 : bs.length + s.size ≤ 140737488355328) (h2 : wo.heap.size ≤ w3.heap.size) => WriteString_any wo.heap.size wo.heap.size bs s w3 hb h1 h2
      have HWS := hid hws
      clear hws
      by_cases hlast : k < L.length
      ·go_wp2_with (first | (go_at_call 79; refine hIt.out.mono ?_; rintro e w3 ⟨rfl, h3⟩))
       have hrc : ((9 : Int) - (D.size : Int)) = ((9 - D.size : Nat) : Int) := by omega
       have hRp := Tryz.strings_Repeat ⟨#[48]⟩ (9 - D.size) w3 (by omega) (by show 1 * _ ≤ _; omega)
       rw [← hrc] at hRp
       have HRp := hid hRp
       clear hRp hrc
       have hb3 := bld_below hbd.out h3
       have hs3 := h3.size
       have hso := hw2.size
       refine HRp.out.mono ?_
       rintro e w4 ⟨rfl, h4⟩
       have hb4 := bld_below hb3 h4
       have hs4 := h4.size
       obtain ⟨Z9, hZ⟩ : ∃ Z9 : ByteArray, Z9 = ⟨(Lib.repeatL (⟨#[48]⟩ : ByteArray).data.toList (9 - D.size)).toArray⟩ := ⟨_, rfl⟩
       rw [← hZ]
       have hZs : Z9.size = 9 - D.size := by rw [hZ]; exact repeatL_len _
       have hZl : Hid (Z9.data.toList = Lib.repeatL [48] (9 - D.size)) := by unfold Hid; rw [hZ]
       clear hZ
       have hW5 := hid (HWS.out w4 _ Z9 hb4 (by omega) (by omega))
       go_wp2_with fail
       refine hW5.out.mono ?_
       rintro e w5 ⟨rfl, hb5, h5⟩
       have hs5 := h5.size
       have hW6 := hid (HWS.out w5 _ D (.inr hb5) (by rw [List.length_append, Lib.strCells_length]; omega) (by omega))
       go_wp2_with (go_at_call 80; refine hW6.out.mono ?_; rintro e w6 ⟨rfl, hb6, h6⟩)
       go_roundw
       case rel => exact ⟨k - 1, val_i (by omega), by omega, (((hw2.trans (h3.mono hso)).trans (h4.mono (by omega))).trans h5).trans h6, .inr (by
        rw [hdr.out, outC, if_neg (by intro h; have := congrArg List.length h; simp at this; omega)]
        rw [Lib.strCells_eq, Lib.strCells_eq, hZl.out, hDl.out, HDs.out, ← byteCells_app, ← byteCells_app] at hb6
        simpa [List.append_assoc] using hb6)⟩
       case measure => simp [intOf]; omega
      ·obtain rfl : k = L.length := by omega
       have hW6 := hid (fun (w3 : World) (h3 : Below wr.heap.size wr w3) => HWS.out w3 _ D (bld_below hbd.out h3) (by omega) (Nat.le_trans hw2.size h3.size))
       go_wp2_with (first | (go_at_call 80; refine (hW6.out _ h3).mono ?_; rintro e w6 ⟨rfl, hb6, h6⟩) | (go_at_call 79; refine hIt.out.mono ?_; rintro e w3 ⟨rfl, h3⟩))
       go_roundw
       case rel => exact ⟨L.length - 1, val_i (by omega), by omega, (hw2.trans (h3.mono hw2.size)).trans h6, .inr (by
        rw [hdr.out, outC, if_pos (by simp)]
        rw [Lib.strCells_eq, hDl.out, ← byteCells_app] at hb6
        simpa [List.append_assoc] using hb6)⟩
       case measure => simp [intOf]; omega
     ·obtain rfl : k = 0 := by omega
      have hS := Tryz.Builder_String_any wo.heap.size wo.heap.size _ wr hbd.out hw2.size
      have hS := hid hS
      go_wp2_with (go_at_call 82; refine hS.out.mono ?_; rintro e w3 ⟨rfl, h3⟩)
      go_ret
      exact ⟨by rw [HF.out, hLn.out]; rfl, (hb2.trans (hw2.mono hb2.size)).trans (h3.mono hb2.size)⟩
  ·have hdm := digs_pos (show 2 ≤ 1000000000 by omega) hm
   have hl1 : 0 < (limbs m).length := by rw [limbs_pos hm]; simp
   have HC := HD.out wr R cc m hr hl
   have hmod := Nat.mod_lt m (show 0 < 1000000000 by omega)
   have hdl := Nat.div_le_self m 1000000000
   have hdlt := Nat.div_lt_self (show 0 < m by omega) (show 1 < 1000000000 by omega)
   have hql := Nat.le_trans (limbs_mono hdl) hl
   have HH := hid hdm
   clear hdm HD
   generalize m % 1000000000 = r at *
   generalize m / 1000000000 = q at *
   have HC := hid HC
   go_wp2_with (first | (go_at_call 77; refine HC.out.mono ?_; rintro e w3 ⟨c3, rfl, hr3, h3⟩; have hown3 := own_below (own_below hown h3) ((Below.refl _ _).alloc (Nat.le_refl _) (.cells #[.int .u32 (r : Int)] 61)); have hsz3 := h3.size) | (at_builtin; refine wpList_app rfl (.tmp 26) (.tmp 28) 22 rfl 61 (.int .u32 0) 4 Tryz.underlying22 info32 rfl w1.heap.size lim (fun _ => rfl) _ L rfl hown3 _ 1 [r] rfl (rd_one lim w3 r 61) (by simp; omega) (by simp; omega) (by simp; omega) ?_; intro v5 w5 hown5 hgr hwh))
   have hne1 := own_ne hown (Nat.le_refl wr.heap.size)
   have hb5 := below_app hown3 hgr (by simp; omega)
   go_roundg q
   case rel => exact ⟨v5, L ++ [r], some ⟨wr.heap.size, 0, none⟩, c3, q, rfl, hown5, rfl, (hr3.below ((Below.refl _ _).alloc (Nat.le_refl _) _)).grown hgr (fun _ p hp => by injection hp with hp; subst hp; exact hne1), hql, (fun y hy => by
    rcases List.mem_append.1 hy with hy | hy
    ·exact hokL y hy
    ·rw [List.mem_singleton] at hy; subst hy; omega), (hbl.trans ((h3.mono hbl.size).alloc (by omega) _)).trans hb5, rfl, by unfold Hid; rw [hd.out, HH.out]; simp, fun _ p hp => by
    injection hp with hp
    subst hp
    rcases hwh with h | h
    ·rw [h]; exact hne1
    ·rw [h]; simp; omega⟩
   case measure => rw [hg.out]; exact hdlt
end Go.Proofs.YtfdmlfpldgobjaaGreatDoor
/- The comparison of two integers field by field (the reference's Same, the laws' same). Conditions: none. -/
namespace Go.Proofs.YtfdmlfpldgobjaaGreatDoor
open Go.RowKit Big
def RetB (w : World) (b : Bool) (e : Ending) (w' : World) : Prop := e = .returned (.bool b) ∧ Below w.heap.size w w'
end Go.Proofs.YtfdmlfpldgobjaaGreatDoor
/- The contracts of package bigint once more, the sign, the length and the limbs of each integer under names of their own. Conditions: none. -/
namespace Go.Proofs.YtfdmlfpldgobjaaGreatDoor
open Go.RowKit Big
/-! ### cells of boxes over later worlds -/
theorem keep_cell {W w' : World} {g o : Nat} {v : Value} (h : Below W.heap.size W w') (hc : W.cell? ⟨g, o, none⟩ = some v) : w'.cell? ⟨g, o, none⟩ = some v := by
 have hg : g < W.heap.size := by
  rcases Nat.lt_or_ge g W.heap.size with h1 | h1
  ·exact h1
  ·simp [World.cell?, Array.getElem?_eq_none h1] at hc
 exact (h.cell (p := ⟨g, o, none⟩) hg).trans hc
theorem bel_step {w V w' : World} (h0 : Below w.heap.size w V) (h : Below V.heap.size V w') : Below w.heap.size w w' := h0.trans (h.mono h0.size)
theorem cell_lt {W : World} {g o : Nat} {v : Value} (hc : W.cell? ⟨g, o, none⟩ = some v) : g < W.heap.size := by
 rcases Nat.lt_or_ge g W.heap.size with h1 | h1
 ·exact h1
 ·simp [World.cell?, Array.getElem?_eq_none h1] at hc
theorem keep_alloc {W : World} {g o : Nat} {v : Value} {b : Obj} (hc : W.cell? ⟨g, o, none⟩ = some v) : (W.alloc b).cell? ⟨g, o, none⟩ = some v :=
 keep_cell ((Below.refl _ _).alloc (Nat.le_refl _) _) hc
theorem keep_drew {W : World} {g o : Nat} {v : Value} (hc : W.cell? ⟨g, o, none⟩ = some v) : W.drew.cell? ⟨g, o, none⟩ = some v := hc
theorem keep_set {W : World} {g o k i : Nat} {v u : Value} (hne : k ≠ g) (hc : W.cell? ⟨g, o, none⟩ = some v) : (W.setCell ⟨k, i, none⟩ u).cell? ⟨g, o, none⟩ = some v := (cell_far hne).trans hc
theorem at_alloc0 {W : World} {g : Nat} {a b : Value} {t : TypeId} (hg : g = W.heap.size) : (W.alloc (.cells #[a, b] t)).cell? ⟨g, 0, none⟩ = some a := by
 subst hg; exact (World.cell?_alloc_at _ _ _ _ rfl).trans rfl
theorem at_alloc1 {W : World} {g : Nat} {a b : Value} {t : TypeId} (hg : g = W.heap.size) : (W.alloc (.cells #[a, b] t)).cell? ⟨g, 1, none⟩ = some b := by
 subst hg; exact (World.cell?_alloc_at _ _ _ _ rfl).trans rfl
theorem at_set {W : World} {g i : Nat} {v u : Value} (h : W.cell? ⟨g, i, none⟩ = some v) : (W.setCell ⟨g, i, none⟩ u).cell? ⟨g, i, none⟩ = some u := by
 simp [go_sem, h]
theorem keep_off {W : World} {g i j : Nat} {v u : Value} (hne : i ≠ j) (hc : W.cell? ⟨g, j, none⟩ = some v) : (W.setCell ⟨g, i, none⟩ u).cell? ⟨g, j, none⟩ = some v := (cell_set_ne hne).trans hc
theorem Mg.alloc {W : World} {A : Option Addr} {c : Nat} {xs : List Nat} {b : Obj} (h : Mg W A c xs) : Mg (W.alloc b) A c xs := h.below ((Below.refl _ _).alloc (Nat.le_refl _) _)
theorem Mg.setB {W : World} {A : Option Addr} {c : Nat} {xs : List Nat} {g : Nat} {u : Value} (hv : W.cell? ⟨g, 0, none⟩ = some (.bool false)) (h : Mg W A c xs) : Mg (W.setCell ⟨g, 0, none⟩ u) A c xs := h.set_ g 0 _ u hv (by simp)
theorem Mg.setS {W : World} {A : Option Addr} {c : Nat} {xs : List Nat} {g : Nat} {u : Value} (hv : W.cell? ⟨g, 1, none⟩ = some (.slice none 0 0)) (h : Mg W A c xs) : Mg (W.setCell ⟨g, 1, none⟩ u) A c xs := h.set_ g 1 _ u hv (by simp)
theorem at_setB {W : World} {g : Nat} {u : Value} (h : W.cell? ⟨g, 0, none⟩ = some (.bool false)) : (W.setCell ⟨g, 0, none⟩ u).cell? ⟨g, 0, none⟩ = some u := at_set h
theorem at_setS {W : World} {g : Nat} {u : Value} (h : W.cell? ⟨g, 1, none⟩ = some (.slice none 0 0)) : (W.setCell ⟨g, 1, none⟩ u).cell? ⟨g, 1, none⟩ = some u := at_set h
/-- z's sign, number of limbs and limbs -/
structure Iz (z : Int) (b : Bool) (n : Nat) (xs : List Nat) : Prop where
 hb : b = decide (z < 0)
 hx : xs = limbs z.natAbs
 hn : n = xs.length
theorem iz (z : Int) : ∃ b n xs, Hid (Iz z b n xs) := ⟨_, _, _, rfl, rfl, rfl⟩
theorem Iz.le {z : Int} {b : Bool} {n : Nat} {xs : List Nat} (h : Iz z b n xs) (f : fits z) : n ≤ 512 := by
 obtain ⟨rfl, rfl, rfl⟩ := h; exact f
theorem Iz.zero {z : Int} {b : Bool} {n : Nat} {xs : List Nat} (h : Iz z b n xs) : n = 0 ↔ z = 0 := by
 obtain ⟨rfl, rfl, rfl⟩ := h
 rw [List.length_eq_zero_iff, limbs_eq_nil]; omega
def GZ (w : World) (b : Bool) (n : Nat) (xs : List Nat) (e : Ending) (w' : World) : Prop :=
 ∃ A c, e = .returned (.agg #[.bool b, .slice A n c]) ∧ Mg w' A c xs ∧ Below w.heap.size w w'
def GZE (w : World) (b : Bool) (n : Nat) (xs : List Nat) (err : Int) (e : Ending) (w' : World) : Prop :=
 ∃ A c, e = .returned (.tuple #[.agg #[.bool b, .slice A n c], .int .i64 err]) ∧ Mg w' A c xs ∧ Below w.heap.size w w'
def GDM (w : World) (b : Bool) (n : Nat) (xs : List Nat) (b' : Bool) (n' : Nat) (xs' : List Nat) (err : Int) (e : Ending) (w' : World) : Prop :=
 ∃ A c B d, e = .returned (.tuple #[.agg #[.bool b, .slice A n c], .agg #[.bool b', .slice B n' d], .int .i64 err]) ∧ Mg w' A c xs ∧ Mg w' B d xs' ∧ Below w.heap.size w w'
/-- a slice of limbs in memory not older than B -/
structure MgN (B : Nat) (w : World) (A : Option Addr) (c : Nat) (xs : List Nat) : Prop where
 m : Mg w A c xs
 nw : Nw B w A
theorem MgN.below {B : Nat} {w w' : World} {A : Option Addr} {c : Nat} {xs : List Nat} (h : MgN B w A c xs) (hb : Below w.heap.size w w') : MgN B w' A c xs := ⟨h.m.below hb, h.nw.below hb⟩
theorem MgN.up {B B' : Nat} {w : World} {A : Option Addr} {c : Nat} {xs : List Nat} (h : MgN B w A c xs) (hB : B' ≤ B) : MgN B' w A c xs := ⟨h.m, h.nw.mono hB⟩
theorem MgN.alloc {B : Nat} {w : World} {A : Option Addr} {c : Nat} {xs : List Nat} {o : Obj} (h : MgN B w A c xs) : MgN B (w.alloc o) A c xs := ⟨h.m.alloc, h.nw.alloc _⟩
/-- the same, the first result in memory not older than B0 -/
def GZn (B0 : Nat) (w : World) (b : Bool) (n : Nat) (xs : List Nat) (e : Ending) (w' : World) : Prop :=
 ∃ A c, e = .returned (.agg #[.bool b, .slice A n c]) ∧ MgN B0 w' A c xs ∧ Below w.heap.size w w'
def GZEn (B0 : Nat) (w : World) (b : Bool) (n : Nat) (xs : List Nat) (err : Int) (e : Ending) (w' : World) : Prop :=
 ∃ A c, e = .returned (.tuple #[.agg #[.bool b, .slice A n c], .int .i64 err]) ∧ MgN B0 w' A c xs ∧ Below w.heap.size w w'
def GDMn (B0 : Nat) (w : World) (b : Bool) (n : Nat) (xs : List Nat) (b' : Bool) (n' : Nat) (xs' : List Nat) (err : Int) (e : Ending) (w' : World) : Prop :=
 ∃ A c B d, e = .returned (.tuple #[.agg #[.bool b, .slice A n c], .agg #[.bool b', .slice B n' d], .int .i64 err]) ∧ MgN B0 w' A c xs ∧ Mg w' B d xs' ∧ Below w.heap.size w w'
theorem GZn.up {B0 B' : Nat} {w w' : World} {b : Bool} {n : Nat} {xs : List Nat} {e : Ending} (hB : B' ≤ B0) (h : GZn B0 w b n xs e w') : GZn B' w b n xs e w' := by
 obtain ⟨A, c, h1, h2, h4⟩ := h; exact ⟨A, c, h1, h2.up hB, h4⟩
theorem GZEn.up {B0 B' : Nat} {w w' : World} {b : Bool} {n : Nat} {xs : List Nat} {err : Int} {e : Ending} (hB : B' ≤ B0) (h : GZEn B0 w b n xs err e w') : GZEn B' w b n xs err e w' := by
 obtain ⟨A, c, h1, h2, h4⟩ := h; exact ⟨A, c, h1, h2.up hB, h4⟩
theorem GDMn.up {B0 B' : Nat} {w w' : World} {b : Bool} {n : Nat} {xs : List Nat} {b' : Bool} {n' : Nat} {xs' : List Nat} {err : Int} {e : Ending} (hB : B' ≤ B0) (h : GDMn B0 w b n xs b' n' xs' err e w') : GDMn B' w b n xs b' n' xs' err e w' := by
 obtain ⟨A, c, B, d, h1, h2, h3, h4⟩ := h; exact ⟨A, c, B, d, h1, h2.up hB, h3, h4⟩
theorem GZEn.r {w w' : World} {z err : Int} {b : Bool} {n : Nat} {L : List Nat} {e : Ending} (h : GZEn w.heap.size w b n L err e w') (I : Iz z b n L) : RetZEp (Nw w.heap.size) w z err e w' := by
 obtain ⟨rfl, rfl, rfl⟩ := I
 obtain ⟨A, c, h1, h2, h4⟩ := h; exact ⟨A, c, h1, h2.m, h4, h2.nw⟩
section
variable {x y z r err : Int} {b b' b2 b3 : Bool} {n n' n2 n3 : Nat} {xs ys zs rs : List Nat} {A B : Option Addr} {c d : Nat} {w : World}
variable (hx : Iz x b n xs) (hy : Iz y b' n' ys)
include hx hy
section
variable (hz : Iz z b2 n2 zs) (he : fitE r = (z, err)) (ha : Mg w A c xs) (hb : Mg w B d ys) (fx : fits x) (fy : fits y)
include hz he ha hb fx fy
theorem Add_g (h : x + y = r) : Calls Tryz.prog 42 #[.agg #[.bool b, .slice A n c], .agg #[.bool b', .slice B n' d]] w (GZE w b2 n2 zs err) := by
 obtain ⟨rfl, rfl, rfl⟩ := hx; obtain ⟨rfl, rfl, rfl⟩ := hy; obtain ⟨rfl, rfl, rfl⟩ := hz; subst h
 have := Add_ok x y A B c d w ha hb fx fy; unfold RetF at this; rw [he] at this; exact this
theorem Add_gn (h : x + y = r) : Calls Tryz.prog 42 #[.agg #[.bool b, .slice A n c], .agg #[.bool b', .slice B n' d]] w (GZEn w.heap.size w b2 n2 zs err) := by
 obtain ⟨rfl, rfl, rfl⟩ := hx; obtain ⟨rfl, rfl, rfl⟩ := hy; obtain ⟨rfl, rfl, rfl⟩ := hz; subst h
 have := Add_nw x y A B c d w ha hb fx fy; unfold RetFp at this; rw [he] at this; exact this.mono fun _ _ ⟨A, c, e, m, h, n⟩ => ⟨A, c, e, ⟨m, n⟩, h⟩
theorem Sub_g (h : x - y = r) : Calls Tryz.prog 40 #[.agg #[.bool b, .slice A n c], .agg #[.bool b', .slice B n' d]] w (GZE w b2 n2 zs err) := by
 obtain ⟨rfl, rfl, rfl⟩ := hx; obtain ⟨rfl, rfl, rfl⟩ := hy; obtain ⟨rfl, rfl, rfl⟩ := hz; subst h
 have := Sub_ok x y A B c d w ha hb fx fy; unfold RetF at this; rw [he] at this; exact this
theorem Mul_g (h : x * y = r) : Calls Tryz.prog 95 #[.agg #[.bool b, .slice A n c], .agg #[.bool b', .slice B n' d]] w (GZE w b2 n2 zs err) := by
 obtain ⟨rfl, rfl, rfl⟩ := hx; obtain ⟨rfl, rfl, rfl⟩ := hy; obtain ⟨rfl, rfl, rfl⟩ := hz; subst h
 have := Mul_ok x y A B c d w ha hb fx fy; unfold RetF at this; rw [he] at this; exact this
end
theorem Cmp_g (ha : Mg w A c xs) (hb : Mg w B d ys) (fx : fits x) (fy : fits y) (k : Int) (h : zord x y = k) : Calls Tryz.prog 41 #[.agg #[.bool b, .slice A n c], .agg #[.bool b', .slice B n' d]] w (RetI w k) := by
 obtain ⟨rfl, rfl, rfl⟩ := hx; obtain ⟨rfl, rfl, rfl⟩ := hy; subst h
 exact Cmp_ok x y A B c d w ha hb fx fy
theorem DivMod_g (hz : Iz z b2 n2 zs) (hr : Iz r b3 n3 rs) (ha : Mg w A c xs) (hb : Mg w B d ys) (fx : fits x) (fy : fits y) (h0 : y ≠ 0) (h : dmQ x y = z) (h2 : dmR x y = r) : Calls Tryz.prog 39 #[.agg #[.bool b, .slice A n c], .agg #[.bool b', .slice B n' d]] w (GDM w b2 n2 zs b3 n3 rs 0) := by
 obtain ⟨rfl, rfl, rfl⟩ := hx; obtain ⟨rfl, rfl, rfl⟩ := hy; obtain ⟨rfl, rfl, rfl⟩ := hz; obtain ⟨rfl, rfl, rfl⟩ := hr; subst h; subst h2
 exact DivMod_ok x y A B c d w ha hb fx fy h0
theorem DivMod_gn (hz : Iz z b2 n2 zs) (hr : Iz r b3 n3 rs) (ha : Mg w A c xs) (hb : Mg w B d ys) (fx : fits x) (fy : fits y) (h0 : y ≠ 0) (h : dmQ x y = z) (h2 : dmR x y = r) : Calls Tryz.prog 39 #[.agg #[.bool b, .slice A n c], .agg #[.bool b', .slice B n' d]] w (GDMn w.heap.size w b2 n2 zs b3 n3 rs 0) := by
 obtain ⟨rfl, rfl, rfl⟩ := hx; obtain ⟨rfl, rfl, rfl⟩ := hy; obtain ⟨rfl, rfl, rfl⟩ := hz; obtain ⟨rfl, rfl, rfl⟩ := hr; subst h; subst h2
 exact (DivMod_nw x y A B c d w ha hb fx fy h0).mono fun _ _ ⟨A, c, B, d, e, m, m2, h, n⟩ => ⟨A, c, B, d, e, ⟨m, n⟩, m2, h⟩
end
section
variable {x z r err : Int} {b b2 : Bool} {n n2 : Nat} {xs zs : List Nat} {A : Option Addr} {c : Nat} {w : World}
theorem Neg_gn (hx : Iz x b n xs) (hz : Iz z b2 n2 zs) (ha : Mg w A c xs) (fx : fits x) (h : -x = z) : Calls Tryz.prog 61 #[.agg #[.bool b, .slice A n c]] w (GZn w.heap.size w b2 n2 zs) := by
 obtain ⟨rfl, rfl, rfl⟩ := hx; obtain ⟨rfl, rfl, rfl⟩ := hz; subst h
 exact (Neg_nw x A c w ha fx).mono fun _ _ ⟨A, c, e, m, h, n⟩ => ⟨A, c, e, ⟨m, n⟩, h⟩
theorem FromInt_g (hz : Iz z b2 n2 zs) (h1 : -9223372036854775808 ≤ z) (h2 : z ≤ 9223372036854775807) : Calls Tryz.prog 38 #[.int .i64 z] w (GZ w b2 n2 zs) := by
 obtain ⟨rfl, rfl, rfl⟩ := hz
 exact FromInt_ok z w h1 h2
theorem FromInt_1n (hz : Iz 1 b2 n2 zs) : Calls Tryz.prog 38 #[.int .i64 1] w (GZn w.heap.size w b2 n2 zs) := by
 obtain ⟨rfl, rfl, rfl⟩ := hz
 exact (FromInt_nw 1 w (by omega)).mono fun _ _ ⟨A, c, e, m, h, n⟩ => ⟨A, c, e, ⟨m, n⟩, h⟩
end
end Go.Proofs.YtfdmlfpldgobjaaGreatDoor
