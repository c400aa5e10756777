/- The law FractionFresh: what is written over; walks of changed, own, Copy. Conditions: none. -/
import Derived.Test.YtfdmlfpldgobjaaGreatDoorZFrP
import Derived.Test.YtfdmlfpldgobjaaGreatDoorZNtS
import Derived.Test.YtfdmlfpldgobjaaGreatDoorZQ3I
set_option linter.unusedVariables false
set_option linter.unusedSimpArgs false
namespace Go.Proofs.YtfdmlfpldgobjaaGreatDoor
open Go.RowKit Big
/-- all that w had is in w' as it was, but the row at A; rows stay rows -/
structure Chg (w w' : World) (n : Nat) (A : Option Addr) : Prop where
 os : w'.os = w.os
 tape : w'.tape = w.tape
 output : w'.output = w.output
 size : w.heap.size ≤ w'.heap.size
 block : ∀ k, k < w.heap.size → (0 < n → ∀ p, A = some p → p.block ≠ k) → w'.heap[k]? = w.heap[k]?
 row : ∀ (k : Nat) (cs : Array Value) (t : TypeId), w.heap[k]? = some (.cells cs t) → ∃ cs' : Array Value, cs'.size = cs.size ∧ w'.heap[k]? = some (.cells cs' t)
/-- a row of n cells at A that can be written to, in a block from B up to C -/
def Wr (B C : Nat) (w : World) (n : Nat) (A : Option Addr) : Prop := 0 < n → ∃ (b o : Nat) (cs : Array Value) (t : TypeId), A = some ⟨b, o, none⟩ ∧ B ≤ b ∧ b < C ∧ w.heap[b]? = some (.cells cs t) ∧ o + n ≤ cs.size
section
variable {w w' v : World} {n m : Nat} {A A' : Option Addr} {B C : Nat}
theorem Chg.of_below (h : Below w.heap.size w w') : Chg w w' n A :=
 ⟨h.os, h.tape, h.output, h.size, fun k hk _ => h.block k hk, fun k cs t hk => ⟨cs, rfl, (h.block k (Array.getElem?_eq_some_iff.1 hk).1).trans hk⟩⟩
theorem Chg.trans (h : Chg w w' n A) (h2 : Chg w' v n A) : Chg w v n A :=
 ⟨h2.os.trans h.os, h2.tape.trans h.tape, h2.output.trans h.output, Nat.le_trans h.size h2.size, fun k hk hn => (h2.block k (Nat.lt_of_lt_of_le hk h.size) hn).trans (h.block k hk hn), fun k cs t hk => by
  obtain ⟨c1, e1, h1⟩ := h.row k cs t hk
  obtain ⟨c2, e2, h3⟩ := h2.row k c1 t h1
  exact ⟨c2, e2.trans e1, h3⟩⟩
theorem Chg.set {b o : Nat} (hn : 0 < n) (hA : A = some ⟨b, o, none⟩) (j : Nat) (u : Value) : Chg w (w.setCell ⟨b, j, none⟩ u) n A :=
 ⟨rfl, rfl, rfl, by simp [World.setCell], fun k _ hk => Below.heap_setCell _ _ _ _ (fun e => hk hn _ hA (by simpa using e.symm)), fun k cs t hk => by
  by_cases e : k = b
  ·subst e
   refine ⟨cs.setIfInBounds j u, by simp, ?_⟩
   simp only [World.setCell, Array.getElem?_modify, if_true, hk]
   rfl
  ·exact ⟨cs, rfl, (Below.heap_setCell _ _ _ _ (by simpa using e)).trans hk⟩⟩
theorem Wr.chg (h : Wr B C w n A) (hc : Chg w w' m A') : Wr B C w' n A := fun hn => by
 obtain ⟨b, o, cs, t, h1, h2, h3, h4, h5⟩ := h hn
 obtain ⟨c2, e, h6⟩ := hc.row b cs t h4
 exact ⟨b, o, c2, t, h1, h2, h3, h6, by omega⟩
theorem Wr.below (h : Wr B C w n A) (hb : Below w.heap.size w w') : Wr B C w' n A := h.chg (Chg.of_below (n := 0) (A := none) hb)
theorem Wr.mono {B' C' : Nat} (h : Wr B C w n A) (hB : B' ≤ B) (hC : C ≤ C') : Wr B' C' w n A := fun hn => by
 obtain ⟨b, o, cs, t, h1, h2, h3, h4, h5⟩ := h hn
 exact ⟨b, o, cs, t, h1, Nat.le_trans hB h2, Nat.lt_of_lt_of_le h3 hC, h4, h5⟩
theorem MgN.wr {c : Nat} {xs : List Nat} (h : MgN B w A c xs) : Wr B w.heap.size w xs.length A := fun hn => by
 obtain ⟨b, o, e, hb, hc⟩ := h.m.rd hn
 obtain ⟨h1, cs, t, h2⟩ := h.nw _ e
 refine ⟨b, o, cs, t, e, h1, hb, h2, ?_⟩
 have h3 := hc (xs.length - 1) (by omega)
 rw [cell_of_row w b _ cs t _ h2] at h3
 have := (Array.getElem?_eq_some_iff.1 h3).1
 omega
theorem Below.chg {D : Nat} (h : Below D v w) (hc : Chg w w' n A) (hw : Wr B C w n A) (hD : D ≤ B) (hs : D ≤ w.heap.size) : Below D v w' :=
 h.trans ⟨hc.os, hc.tape, hc.output, hc.size, fun k hk => hc.block k (by omega) fun hn p e => by
  obtain ⟨b, o, cs, t, h1, h2, _⟩ := hw hn
  rw [h1] at e
  cases e
  show b ≠ k
  omega⟩
/-- a block from C on stays -/
theorem Chg.far (hc : Chg w w' n A) (hw : Wr B C w n A) {k : Nat} (hk : k < w.heap.size) (hC : C ≤ k) : w'.heap[k]? = w.heap[k]? := hc.block k hk fun hn p e => by
 obtain ⟨b, o, cs, t, h1, h2, h3, _⟩ := hw hn
 rw [h1] at e
 cases e
 show b ≠ k
 omega
end
/-- six rows' limbs that can be written to -/
def Row6 (B C : Nat) (w : World) (cur : Array Value) : Prop := ∀ i, i < 6 → ∃ (b : Bool) (R : Option Addr) (k c : Nat) (Q : Option Addr) (l d : Nat), cur[i * 4]? = some (.bool b) ∧ cur[i * 4 + 1]? = some (.slice R k c) ∧ cur[i * 4 + 2]? = some (.bool false) ∧ cur[i * 4 + 3]? = some (.slice Q l d) ∧ (k ≤ 9223372036854775807 ∧ l ≤ 9223372036854775807) ∧ Wr B C w k R ∧ Wr B C w l Q
theorem Row6.chg {B C : Nat} {w w' : World} {cur : Array Value} {m : Nat} {A : Option Addr} (h : Row6 B C w cur) (hc : Chg w w' m A) : Row6 B C w' cur := fun i hi => by
 obtain ⟨b, R, k, c, Q, l, d, h0, h1, h2, h3, h4, h5, h6⟩ := h i hi
 exact ⟨b, R, k, c, Q, l, d, h0, h1, h2, h3, h4, h5.chg hc, h6.chg hc⟩
theorem Row6.below {B C : Nat} {w w' : World} {cur : Array Value} (h : Row6 B C w cur) (hb : Below w.heap.size w w') : Row6 B C w' cur := h.chg (Chg.of_below (n := 0) (A := none) hb)
/-- one result's limbs -/
def Wr2 (B C : Nat) (w : World) (R : Option Addr) (k : Nat) (Q : Option Addr) (l : Nat) : Prop := (k ≤ 9223372036854775807 ∧ l ≤ 9223372036854775807) ∧ Wr B C w k R ∧ Wr B C w l Q
theorem Row6.of {B C : Nat} {w : World} {cur : Array Value} {b0 b1 b2 b3 b4 b5 : Bool} {R0 R1 R2 R3 R4 R5 Q0 Q1 Q2 Q3 Q4 Q5 : Option Addr} {k0 k1 k2 k3 k4 k5 l0 l1 l2 l3 l4 l5 c0 c1 c2 c3 c4 c5 d0 d1 d2 d3 d4 d5 : Nat}
  (h : cur.toList.take (6 * 4) = (#[.bool b0, .slice R0 k0 c0, .bool false, .slice Q0 l0 d0, .bool b1, .slice R1 k1 c1, .bool false, .slice Q1 l1 d1, .bool b2, .slice R2 k2 c2, .bool false, .slice Q2 l2 d2, .bool b3, .slice R3 k3 c3, .bool false, .slice Q3 l3 d3, .bool b4, .slice R4 k4 c4, .bool false, .slice Q4 l4 d4, .bool b5, .slice R5 k5 c5, .bool false, .slice Q5 l5 d5] : Array Value).toList)
  (h0 : Wr2 B C w R0 k0 Q0 l0) (h1 : Wr2 B C w R1 k1 Q1 l1) (h2 : Wr2 B C w R2 k2 Q2 l2) (h3 : Wr2 B C w R3 k3 Q3 l3) (h4 : Wr2 B C w R4 k4 Q4 l4) (h5 : Wr2 B C w R5 k5 Q5 l5) : Row6 B C w cur := by
 have hh : ∀ (j : Nat) (v : Value), j < 24 → (#[.bool b0, .slice R0 k0 c0, .bool false, .slice Q0 l0 d0, .bool b1, .slice R1 k1 c1, .bool false, .slice Q1 l1 d1, .bool b2, .slice R2 k2 c2, .bool false, .slice Q2 l2 d2, .bool b3, .slice R3 k3 c3, .bool false, .slice Q3 l3 d3, .bool b4, .slice R4 k4 c4, .bool false, .slice Q4 l4 d4, .bool b5, .slice R5 k5 c5, .bool false, .slice Q5 l5 d5] : Array Value).toList[j]? = some v → cur[j]? = some v := fun j v hj hv => by
  rw [← h, List.getElem?_take, if_pos (by omega)] at hv
  simpa using hv
 intro i hi
 match i, hi with
 | 0, _ => exact ⟨b0, R0, k0, c0, Q0, l0, d0, hh 0 _ (by omega) rfl, hh 1 _ (by omega) rfl, hh 2 _ (by omega) rfl, hh 3 _ (by omega) rfl, h0⟩
 | 1, _ => exact ⟨b1, R1, k1, c1, Q1, l1, d1, hh 4 _ (by omega) rfl, hh 5 _ (by omega) rfl, hh 6 _ (by omega) rfl, hh 7 _ (by omega) rfl, h1⟩
 | 2, _ => exact ⟨b2, R2, k2, c2, Q2, l2, d2, hh 8 _ (by omega) rfl, hh 9 _ (by omega) rfl, hh 10 _ (by omega) rfl, hh 11 _ (by omega) rfl, h2⟩
 | 3, _ => exact ⟨b3, R3, k3, c3, Q3, l3, d3, hh 12 _ (by omega) rfl, hh 13 _ (by omega) rfl, hh 14 _ (by omega) rfl, hh 15 _ (by omega) rfl, h3⟩
 | 4, _ => exact ⟨b4, R4, k4, c4, Q4, l4, d4, hh 16 _ (by omega) rfl, hh 17 _ (by omega) rfl, hh 18 _ (by omega) rfl, hh 19 _ (by omega) rfl, h4⟩
 | 5, _ => exact ⟨b5, R5, k5, c5, Q5, l5, d5, hh 20 _ (by omega) rfl, hh 21 _ (by omega) rfl, hh 22 _ (by omega) rfl, hh 23 _ (by omega) rfl, h5⟩
theorem Chg.cell {w w' : World} {n B C : Nat} {A : Option Addr} {k o : Nat} {v : Value} (hc : Chg w w' n A) (hw : Wr B C w n A) (hC : C ≤ k) (h : w.cell? ⟨k, o, none⟩ = some v) : w'.cell? ⟨k, o, none⟩ = some v :=
 (World.cell?_of_block (a := ⟨k, o, none⟩) (hc.far hw (cell_lt h) hC)).trans h
theorem row_cell {w : World} {g j : Nat} {cur : Array Value} {t : TypeId} {v : Value} (h : w.heap[g]? = some (.cells cur t)) (hv : cur[j]? = some v) : w.cell? ⟨g, j, none⟩ = some v := by
 rw [cell_of_row w g j cur t _ h]; exact hv
/-- an empty fraction's box -/
structure Zb (w : World) (g : Nat) : Prop where
 c0 : w.cell? ⟨g, 0, none⟩ = some (.bool false)
 c1 : w.cell? ⟨g, 1, none⟩ = some (.slice none 0 0)
 c2 : w.cell? ⟨g, 2, none⟩ = some (.bool false)
 c3 : w.cell? ⟨g, 3, none⟩ = some (.slice none 0 0)
theorem Zb.below {w w' : World} {g : Nat} (h : Zb w g) (hb : Below w.heap.size w w') : Zb w' g := ⟨keep_cell hb h.c0, keep_cell hb h.c1, keep_cell hb h.c2, keep_cell hb h.c3⟩
theorem Zb.new {W : World} {t : TypeId} : Zb (W.alloc (.cells #[.bool false, .slice none 0 0, .bool false, .slice none 0 0] t)) W.heap.size := ⟨at_allocF0 rfl, at_allocF1 rfl, at_allocF2 rfl, at_allocF3 rfl⟩
theorem new_zb1 {W w' : World} {t : TypeId} (h : Below (W.alloc (.cells #[.bool false, .slice none 0 0, .bool false, .slice none 0 0] t)).heap.size (W.alloc (.cells #[.bool false, .slice none 0 0, .bool false, .slice none 0 0] t)) w') : Zb w' W.heap.size := Zb.new.below h
theorem new_zb2 {W w' : World} {t : TypeId} {o : Obj} (h : Below ((W.alloc (.cells #[.bool false, .slice none 0 0, .bool false, .slice none 0 0] t)).alloc o).heap.size ((W.alloc (.cells #[.bool false, .slice none 0 0, .bool false, .slice none 0 0] t)).alloc o) w') : Zb w' W.heap.size := (Zb.new.below ((Below.refl _ _).alloc (Nat.le_refl _) _)).below h
theorem new_zb1d {W w' : World} {t : TypeId} (h : Below ((W.alloc (.cells #[.bool false, .slice none 0 0, .bool false, .slice none 0 0] t)).drew).heap.size ((W.alloc (.cells #[.bool false, .slice none 0 0, .bool false, .slice none 0 0] t)).drew) w') : Zb w' W.heap.size := (Zb.new.below (Below.refl _ _).drew).below h
theorem new_zb2d {W w' : World} {t : TypeId} {o : Obj} (h : Below (((W.alloc (.cells #[.bool false, .slice none 0 0, .bool false, .slice none 0 0] t)).alloc o).drew).heap.size (((W.alloc (.cells #[.bool false, .slice none 0 0, .bool false, .slice none 0 0] t)).alloc o).drew) w') : Zb w' W.heap.size := ((Zb.new.below ((Below.refl _ _).alloc (Nat.le_refl _) _)).below (Below.refl _ _).drew).below h
section
variable {W : World} {g ga : Nat} {u0 u1 u2 u3 : Value} {b : Bool} {R : Option Addr} {k c : Nat} {xs : List Nat} {Q : Option Addr} {l d : Nat} {ys : List Nat}
theorem Fb.set4 (z : Zb W ga) (hne : g ≠ ga) (h : Fb W g b R k c xs Q l d ys) : Fb ((((W.setCell ⟨ga, 0, none⟩ u0).setCell ⟨ga, 1, none⟩ u1).setCell ⟨ga, 2, none⟩ u2).setCell ⟨ga, 3, none⟩ u3) g b R k c xs Q l d ys := by
 obtain ⟨_, _, _, _, hC, hM, _, _, _⟩ := setI4F z.c0 z.c1 z.c2 z.c3 (u0 := u0) (u1 := u1) (u2 := u2) (u3 := u3) rfl
 exact ⟨hC _ _ _ hne h.c0, hC _ _ _ hne h.c1, hC _ _ _ hne h.c2, hC _ _ _ hne h.c3, hM _ _ _ h.m, hM _ _ _ h.n⟩
theorem Zb.set4 (z : Zb W ga) (hne : g ≠ ga) (h : Zb W g) : Zb ((((W.setCell ⟨ga, 0, none⟩ u0).setCell ⟨ga, 1, none⟩ u1).setCell ⟨ga, 2, none⟩ u2).setCell ⟨ga, 3, none⟩ u3) g := by
 obtain ⟨_, _, _, _, hC, hM, _, _, _⟩ := setI4F z.c0 z.c1 z.c2 z.c3 (u0 := u0) (u1 := u1) (u2 := u2) (u3 := u3) rfl
 exact ⟨hC _ _ _ hne h.c0, hC _ _ _ hne h.c1, hC _ _ _ hne h.c2, hC _ _ _ hne h.c3⟩
theorem Mg.set4 (z : Zb W ga) (h : Mg W R c xs) : Mg ((((W.setCell ⟨ga, 0, none⟩ u0).setCell ⟨ga, 1, none⟩ u1).setCell ⟨ga, 2, none⟩ u2).setCell ⟨ga, 3, none⟩ u3) R c xs := by
 obtain ⟨_, _, _, _, hC, hM, _, _, _⟩ := setI4F z.c0 z.c1 z.c2 z.c3 (u0 := u0) (u1 := u1) (u2 := u2) (u3 := u3) rfl
 exact hM _ _ _ h
theorem Fb.of4 (z : Zb W g) (m : Mg W R c xs) (n : Mg W Q d ys) : Fb ((((W.setCell ⟨g, 0, none⟩ (.bool b)).setCell ⟨g, 1, none⟩ (.slice R k c)).setCell ⟨g, 2, none⟩ (.bool false)).setCell ⟨g, 3, none⟩ (.slice Q l d)) g b R k c xs Q l d ys := by
 obtain ⟨p0, p1, p2, p3, hC, hM, _, _, _⟩ := setI4F z.c0 z.c1 z.c2 z.c3 (u0 := .bool b) (u1 := .slice R k c) (u2 := .bool false) (u3 := .slice Q l d) rfl
 exact ⟨p0, p1, p2, p3, hM _ _ _ m, hM _ _ _ n⟩
theorem Fb.new {t : TypeId} (hg : g = W.heap.size) (m : Mg W R c xs) (n : Mg W Q d ys) : Fb (W.alloc (.cells #[.bool b, .slice R k c, .bool false, .slice Q l d] t)) g b R k c xs Q l d ys := by
 subst hg
 exact ⟨at_allocF0 rfl, at_allocF1 rfl, at_allocF2 rfl, at_allocF3 rfl, m.alloc, n.alloc⟩
theorem Bel4 {a : World} (hg : a.heap.size ≤ ga) (h : Below a.heap.size a W) : Below a.heap.size a ((((W.setCell ⟨ga, 0, none⟩ u0).setCell ⟨ga, 1, none⟩ u1).setCell ⟨ga, 2, none⟩ u2).setCell ⟨ga, 3, none⟩ u3) := below_set (below_set (below_set (below_set h hg _ _) hg _ _) hg _ _) hg _ _
theorem BelA {a : World} {o : Obj} (h : Below a.heap.size a W) : Below a.heap.size a (W.alloc o) := h.alloc h.size _
theorem Fb.alloc {o : Obj} (h : Fb W g b R k c xs Q l d ys) : Fb (W.alloc o) g b R k c xs Q l d ys := h.below ((Below.refl _ _).alloc (Nat.le_refl _) _)
end
set_option maxRecDepth 100000 in
set_option maxHeartbeats 2000000 in
theorem Lchanged_g {b : Bool} {A : Option Addr} {n c B C : Nat} {w : World} (hw : Wr B C w n A) (hC : C ≤ w.heap.size) (hnm : n ≤ 9223372036854775807) :
  Calls Tryz.prog 17 #[.agg #[.bool b, .slice A n c]] w fun e w' => e = .returned (.tuple #[]) ∧ Chg w w' n A := by
 go_enter Tryz.func17, Tryz.ntmps17
 go_wp2_with fail
 refine enterI (P := fun u => Code.wp _ _ _ _ u) ?_
 intro u HB q0 q1 z1 hsz
 clear hsz
 have f_z1 := z1.fr
 have lt_q0 := cell_lt q0
 have hWu := hw.below HB
 have hsz : w.heap.size < u.heap.size := cell_lt q0
 clear hw
 go_wp2
 go_loopw [2] (fun s2 wr => ∃ k : Nat, k ≤ n ∧ s2 = .int .i64 k ∧ Chg u wr n A ∧ wr.cell? ⟨w.heap.size, 0, none⟩ = some (.bool b) ∧ wr.cell? ⟨w.heap.size, 1, none⟩ = some (.slice A n c)) (fun s2 _ => n - (intOf s2).toNat)
 case atStart => exact ⟨0, Nat.zero_le _, rfl, .of_below (Below.refl _ _), q0, q1⟩
 case round =>
  clear q0 q1
  obtain ⟨k, hk, rfl, hch, q0, q1⟩ := hrel
  by_cases hkn : k < n
  ·obtain ⟨ba, oa, cs, t, rfl, h1, h2, h3, h4⟩ := hWu.chg hch (by omega)
   have c0 : wr.cell? ⟨ba, oa + k, none⟩ = some (cs[oa + k]'(by omega)) := by rw [cell_of_row wr ba _ cs t _ h3]; exact Array.getElem?_eq_getElem _
   have f0 := frozen_of_row wr ba (oa + k) cs t h3
   have hne : ba ≠ w.heap.size := by omega
   have hn0 : 0 < n := by omega
   generalize cs[oa + k]'(by omega) = old at *
   have HCH := hid hch
   have HW := hid hWu
   clear h3 h4 hch hWu
   go_wp2
   go_roundw
   case rel => exact ⟨k + 1, by omega, by go_num, HCH.out.trans (.set hn0 rfl _ _), keep_set hne q0, keep_set hne q1⟩
   case measure => simp [intOf]; omega
  ·obtain rfl : k = n := by omega
   go_wp2
   refine bodyPost_end (results_none rfl _ _ _) rfl ?_
   exact ⟨rfl, (Chg.of_below HB).trans hch⟩
set_option maxHeartbeats 1000000 in
theorem Qown_any {A : Option Addr} {c : Nat} {xs : List Nat} {w : World} (ha : Mg w A c xs) (hs : xs.length ≤ 1048576) :
  Calls Tryz.prog 29 #[.slice A xs.length c] w (GN w xs.length xs) := by
 go_enter Tryz.func29, Tryz.ntmps29
 go_wp2_with (at_builtin; refine wpList_app rfl (.tmp 4) (.tmp 5) 22 rfl 61 (.int .u32 0) 4 Tryz.underlying22 info32 rfl w.heap.size lim (fun _ => rfl) _ [] rfl (World.ownsRow_nil _ _ _ _) A c xs rfl ha.rd (by simp; omega) (by simp; omega) (Nat.le_refl _) ?_; intro v' w2 hown hgr hwh)
 obtain ⟨R, cc, rfl, hm⟩ := own_mg hown ha.ok
 go_wp2
 go_ret
 exact ⟨R, cc, rfl, hm, below_app (World.ownsRow_nil w w.heap.size 61 1) hgr (Nat.le_refl _)⟩
set_option maxRecDepth 100000 in
set_option maxHeartbeats 4000000 in
theorem QCopy_g {b : Bool} {k l : Nat} {xs ys : List Nat} {A B : Option Addr} {ca cb : Nat} {w : World} (ma : Mg w A ca xs) (mb : Mg w B cb ys) (hk : k = xs.length) (hl : l = ys.length) (h1 : k ≤ 1048576) (h2 : l ≤ 1048576) :
  Calls Tryz.prog 7 #[.agg #[.bool b, .slice A k ca, .bool false, .slice B l cb]] w (GFV w b k xs l ys) := by
 have H1 := hid fun (w1 : World) (h : Below w.heap.size w w1) => Qown_any (w := w1) (ma.below h) (by omega)
 have H2 := hid fun (w1 : World) (h : Below w.heap.size w w1) => Qown_any (w := w1) (mb.below h) (by omega)
 rw [← hk] at H1
 rw [← hl] at H2
 clear ma mb hk hl
 go_enter Tryz.func7, Tryz.ntmps7
 go_wp2_with fail
 refine enterFF (P := fun u => Code.wp _ _ _ _ u) ?_
 intro u HB q0 q1 q2 q3 r0 r1 r2 r3 z1 z2 hsz
 clear hsz
 have f_z1 := z1.fr
 have f_z2 := z2.fr
 have lt_q0 := cell_lt q0
 have lt_r0 := cell_lt r0
 go_region_held3 (fun w' => w'.cell? ⟨w.heap.size, 0, none⟩ = some (.bool b) ∧ w'.cell? ⟨w.heap.size, 1, none⟩ = some (.slice A k ca) ∧ w'.cell? ⟨w.heap.size, 2, none⟩ = some (.bool false) ∧ w'.cell? ⟨w.heap.size, 3, none⟩ = some (.slice B l cb)) (first | ((try dsimp only); repeat' (first | with_reducible assumption | apply And.intro | (with_reducible refine keep_alloc ?_) | (with_reducible refine keep_drew ?_) | (with_reducible refine keep_set (by first | omega | (simp only [World.size_alloc, World.size_setCell, World.size_drew]; done) | (simp only [World.size_alloc, World.size_setCell, World.size_drew]; omega)) ?_) | (with_reducible refine keep_cell (W := u) ?_ ?_) | fail))) (first | (go_at_call 29; (with_reducible refine (H1.out _ (bel_step HB BG)).mono ?_); rintro e y1 ⟨R1, c1, rfl, m1, hq_⟩; have qy1 : Below u.heap.size u y1 := bel_step BG hq_) | (go_at_call 29; (with_reducible refine (H2.out _ (bel_step HB BG)).mono ?_); rintro e y2 ⟨R2, c2, rfl, m2, hq_⟩; have qy2 : Below u.heap.size u y2 := bel_step BG hq_; have m1 := m1.below (bel_step BG hq_); have r0 := keep_cell qy2 r0; have r1 := keep_cell qy2 r1; have r2 := keep_cell qy2 r2; have r3 := keep_cell qy2 r3; have z2 := z2.below qy2; have f_z2 := z2.fr))
 replace HB := bel_step HB qy2
 go_wp2
 refine bodyPost_ret (v := .agg #[.bool b, .slice R1 k c1, .bool false, .slice R2 l c2]) ?_ rfl ?_
 ·simp [results, Tryz.results7, go_sem, r0, r1, r2, r3]
 ·obtain ⟨j1_, j2_, j3_⟩ := fin_fr m1 m2 HB (by omega) r0 r1 r2 r3 (.bool b) (.slice R1 k c1) (.bool false) (.slice R2 l c2)
  exact ⟨R1, c1, R2, c2, rfl, j1_, j2_, j3_⟩
end Go.Proofs.YtfdmlfpldgobjaaGreatDoor
