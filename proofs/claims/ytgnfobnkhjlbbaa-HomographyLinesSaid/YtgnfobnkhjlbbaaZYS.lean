/- An array that is being filled, beside others that stay. Conditions: none. -/
import Derived.Test.YtgnfobnkhjlbbaaZYQ
import Derived.Laws.MakeOwn
import Derived.Deep.AppendSrc
import Derived.Test.YtgnfobnkhjlbbaaZYR
import Derived.Maps.AppendAt
set_option linter.unusedVariables false
set_option linter.unusedSimpArgs false
namespace Go.Proofs.Ytgnfobnkhjlbbaa
open Go.RowKit Big

structure Fil (w : World) (kp : List (Nat × List Value)) (gm : Nat) (zs : List Int) (wr : World) : Prop where
  b : Below w.heap.size w wr
  k : ∀ p ∈ kp, wr.rangeAt p.1 0 p.2 ∧ Zn wr p.1 ∧ p.1 ≠ gm
  zm : Zn wr gm
  hg : w.heap.size ≤ gm
  ex : ∃ lm : List ZE, wr.rangeAt gm 0 (cellsM lm) ∧ (∀ e ∈ lm, e.ok wr) ∧ lm.map (·.z) = zs
theorem Fil.below {w wr w1 : World} {kp : List (Nat × List Value)} {gm : Nat} {zs : List Int} (h : Fil w kp gm zs wr) (hb : Below wr.heap.size wr w1) : Fil w kp gm zs w1 := by
  obtain ⟨lm, e2, e3, e4⟩ := h.ex
  exact ⟨bel_step h.b hb, fun p hp => ⟨rng_below (h.k p hp).1 hb, (h.k p hp).2.1.below hb, (h.k p hp).2.2⟩, h.zm.below hb, h.hg, lm, rng_below e2 hb, fun e he => (e3 e he).below hb, e4⟩
theorem Fil.set {w wr : World} {kp : List (Nat × List Value)} {gm : Nat} {zs : List Int} (h : Fil w kp gm zs wr) {j : Nat} (hj : j < zs.length) {z : Int} {b : Bool} {n c : Nat} {R : Option Addr} {L : List Nat} (I : Iz z b n L) (m : Mg wr R c L) :
    Fil w kp gm (zs.set j z) ((wr.setCell ⟨gm, j * 2, none⟩ (.bool b)).setCell ⟨gm, j * 2 + 1, none⟩ (.slice R n c)) := by
  obtain ⟨lm, e2, e3, e4⟩ := h.ex
  have hg := h.hg
  have hj2 : j < lm.length := by rw [← List.length_map (·.z), e4]; exact hj
  have hm : ∀ A' c' xs', Mg wr A' c' xs' → Mg ((wr.setCell ⟨gm, j * 2, none⟩ (.bool b)).setCell ⟨gm, j * 2 + 1, none⟩ (.slice R n c)) A' c' xs' := fun _ _ _ hh => set_M_mg e2 hj2 hh
  refine ⟨below_set (below_set h.b hg _ _) hg _ _, fun p hp => ⟨rng_set (rng_set (h.k p hp).1 (Ne.symm (h.k p hp).2.2)) (Ne.symm (h.k p hp).2.2), (h.k p hp).2.1.set_.set_, (h.k p hp).2.2⟩, h.zm.set_.set_, hg, lm.set j ⟨z, b, n, L, R, c⟩, set_M e2 hj2, fun x hx => ?_, by rw [List.map_set, e4]⟩
  rcases List.mem_or_eq_of_mem_set hx with h5 | rfl
  · exact (e3 x h5).mv hm
  · exact ⟨I, hm _ _ _ m⟩
/-- the cells of one number in it -/
theorem Fil.cell {w wr : World} {kp : List (Nat × List Value)} {gm : Nat} {zs : List Int} (h : Fil w kp gm zs wr) {j : Nat} (hj : j < zs.length) : ∃ e : ZE, e.z = zs[j] ∧ e.ok wr ∧ wr.cell? ⟨gm, j * 2, none⟩ = some (.bool e.b) ∧ wr.cell? ⟨gm, j * 2 + 1, none⟩ = some (.slice e.A e.n e.c) := by
  obtain ⟨lm, e2, e3, e4⟩ := h.ex
  have hj2 : j < lm.length := by rw [← List.length_map (·.z), e4]; exact hj
  obtain ⟨p0, p1⟩ := cellsM_get lm j hj2
  have t0 := e2 _ _ p0
  have t1 := e2 _ _ p1
  rw [Nat.zero_add] at t0 t1
  refine ⟨lm[j], ?_, e3 _ (List.getElem_mem hj2), t0, t1⟩
  subst e4
  simp
/-- the cells of one number of an array -/
theorem rng_cell {w : World} {g : Nat} {l : List ZE} (h : w.rangeAt g 0 (cellsM l)) {j : Nat} (hj : j < l.length) : w.cell? ⟨g, j * 2, none⟩ = some (.bool l[j].b) ∧ w.cell? ⟨g, j * 2 + 1, none⟩ = some (.slice l[j].A l[j].n l[j].c) := by
  obtain ⟨p0, p1⟩ := cellsM_get l j hj
  have t0 := h _ _ p0
  have t1 := h _ _ p1
  rw [Nat.zero_add] at t0 t1
  exact ⟨t0, t1⟩
/-- a filled row so far -/
def sofar (zs : List Int) (j : Nat) : List Int := zs.take j ++ List.replicate (zs.length - j) 0
theorem sofar_len (zs : List Int) (j : Nat) (hj : j ≤ zs.length) : (sofar zs j).length = zs.length := by unfold sofar; simp; omega
theorem sofar_set (zs : List Int) (j : Nat) (hj : j < zs.length) : (sofar zs j).set j zs[j] = sofar zs (j + 1) := by
  unfold sofar
  have e5 : (zs.take j).length = j := by simp; omega
  have e6 := set1_replicate (zs.take j) zs[j] (zs.length - (j + 1))
  rw [e5, show zs.length - (j + 1) + 1 = zs.length - j by omega] at e6
  rw [e6, List.take_succ_eq_append_getElem hj]
theorem sofar_all (zs : List Int) : sofar zs zs.length = zs := by unfold sofar; simp
theorem sofar_none (zs : List Int) : sofar zs 0 = List.replicate zs.length 0 := by unfold sofar; simp
theorem mulZ_at {a b : List Int} (ha : a.length = 9) (hb : b.length = 9) {x y : Nat} (hx : x < 3) (hy : y < 3) :
    (mulZ a b)[3 * y + x]'(by rw [mulZ_len ha hb]; omega) = a[3 * y]'(by omega) * b[x]'(by omega) + a[3 * y + 1]'(by omega) * b[3 + x]'(by omega) + a[3 * y + 2]'(by omega) * b[6 + x]'(by omega) := by
  obtain ⟨a0, a1, a2, a3, a4, a5, a6, a7, a8, rfl⟩ := nine a ha
  obtain ⟨b0, b1, b2, b3, b4, b5, b6, b7, b8, rfl⟩ := nine b hb
  match x, y, hx, hy with
  | 0, 0, _, _ => rfl
  | 1, 0, _, _ => rfl
  | 2, 0, _, _ => rfl
  | 0, 1, _, _ => rfl
  | 1, 1, _, _ => rfl
  | 2, 1, _, _ => rfl
  | 0, 2, _, _ => rfl
  | 1, 2, _, _ => rfl
  | 2, 2, _, _ => rfl
/-- three in a row -/
theorem rng_three {w : World} {g : Nat} {l : List ZE} (h : w.rangeAt g 0 (cellsM l)) {i : Nat} (hi : i + 2 < l.length) : w.rangeAt g (i * 2) (cellsM [l[i], l[i + 1], l[i + 2]]) := by
  have e : l = l.take i ++ ([l[i], l[i + 1], l[i + 2]] ++ l.drop (i + 3)) := by
    conv => lhs; rw [← List.take_append_drop i l]
    rw [List.drop_eq_getElem_cons (by omega), List.drop_eq_getElem_cons (by omega), List.drop_eq_getElem_cons (by omega)]
    rfl
  have h2 := h
  rw [e] at h2
  have := rng_mid (l.take i) [l[i], l[i + 1], l[i + 2]] (l.drop (i + 3)) h2
  rw [List.length_take, Nat.min_eq_left (by omega), Nat.zero_add, Nat.mul_comm] at this
  exact this
theorem mulZ_el {la lb : List ZE} (ha : la.length = 9) (hb : lb.length = 9) {x y : Nat} (hx : x < 3) (hy : y < 3) :
    (mulZ (la.map (·.z)) (lb.map (·.z)))[3 * y + x]? = some ((la[3 * y]'(by omega)).z * (lb[x]'(by omega)).z + (la[3 * y + 1]'(by omega)).z * (lb[3 + x]'(by omega)).z + (la[3 * y + 2]'(by omega)).z * (lb[6 + x]'(by omega)).z) := by
  have h1 := mulZ_at (a := la.map (·.z)) (b := lb.map (·.z)) (by simpa using ha) (by simpa using hb) hx hy
  rw [List.getElem?_eq_getElem (by rw [mulZ_len (by simpa using ha) (by simpa using hb)]; omega), h1]
  simp
theorem sofar_set' {zs : List Int} {j : Nat} {z : Int} (h : zs[j]? = some z) : (sofar zs j).set j z = sofar zs (j + 1) := by
  obtain ⟨hj, rfl⟩ := List.getElem?_eq_some_iff.1 h
  exact sofar_set zs j hj
theorem info24 : (Try.prog.info? 24).map (fun i => (i.zero, i.size, i.bytes)) = some (some (.agg #[.bool false, .slice none 0 0]), 2, 32) := by kernel_rfl
/-- make([]api.Int, 9) -/
theorem make9 (w : World) : (Instr.makeSlice 70 (.int .i64 9) (.int .i64 9)).run Try.prog w = .ok (.slice (some ⟨w.heap.size, 0, none⟩) 9 9) (w.alloc (.cells (cellsM zeros9).toArray 24)) := by
  have h := info24
  cases hi : Try.prog.info? 24 with
  | none => rw [hi] at h; simp at h
  | some i =>
    rw [hi] at h
    simp only [Option.map_some, Option.some.injEq, Prod.mk.injEq] at h
    obtain ⟨h1, h2, h3⟩ := h
    have := run_makeSlice (P := Try.prog) w 70 24 i _ Try.underlying70 hi h1 .i64 .i64 9 9 (by omega) (by omega) (by rw [h2]; decide) (by rw [h3]; decide) (by omega)
    rw [h2] at this
    have e : madeCells (Value.agg #[Value.bool false, Value.slice none 0 0]).cells (Int.toNat 9 * 2) = (cellsM zeros9).toArray := by kernel_rfl
    rw [e] at this
    exact this
theorem Fil.setF {w wr : World} {kp : List (Nat × List Value)} {gm : Nat} {zs : List Int} (h : Fil w kp gm zs wr) {j : Nat} (hj : 2 * j + 1 < zs.length) (p q : ZE) (op : p.ok wr) (oq : q.ok wr) :
    Fil w kp gm ((zs.set (2 * j) p.z).set (2 * j + 1) q.z) ((((wr.setCell ⟨gm, j * 4, none⟩ (.bool p.b)).setCell ⟨gm, j * 4 + 1, none⟩ (.slice p.A p.n p.c)).setCell ⟨gm, j * 4 + 2, none⟩ (.bool q.b)).setCell ⟨gm, j * 4 + 3, none⟩ (.slice q.A q.n q.c)) := by
  obtain ⟨lm, e2, e3, e4⟩ := h.ex
  have hg := h.hg
  have hj2 : 2 * j + 1 < lm.length := by rw [← List.length_map (·.z), e4]; exact hj
  obtain ⟨F1, F2⟩ := set_F p q e2 hj2
  refine ⟨below_set (below_set (below_set (below_set h.b hg _ _) hg _ _) hg _ _) hg _ _, fun r hr => ?_, h.zm.set_.set_.set_.set_, hg, _, F1, fun e he => ?_, by rw [map_set2, e4]⟩
  · obtain ⟨a, b, c⟩ := h.k r hr
    exact ⟨rng_set (rng_set (rng_set (rng_set a (Ne.symm c)) (Ne.symm c)) (Ne.symm c)) (Ne.symm c), b.set_.set_.set_.set_, c⟩
  · rcases List.mem_or_eq_of_mem_set he with he | rfl
    · rcases List.mem_or_eq_of_mem_set he with he | rfl
      · exact (e3 e he).mv F2
      · exact op.mv F2
    · exact oq.mv F2
theorem Fil.cellF {w wr : World} {kp : List (Nat × List Value)} {gm : Nat} {zs : List Int} (h : Fil w kp gm zs wr) {j : Nat} (hj : 2 * j + 1 < zs.length) :
    ∃ b0 A0 n0 c0 b1 A1 n1 c1, wr.cell? ⟨gm, j * 4, none⟩ = some (.bool b0) ∧ wr.cell? ⟨gm, j * 4 + 1, none⟩ = some (.slice A0 n0 c0) ∧ wr.cell? ⟨gm, j * 4 + 2, none⟩ = some (.bool b1) ∧ wr.cell? ⟨gm, j * 4 + 3, none⟩ = some (.slice A1 n1 c1) := by
  obtain ⟨lm, e2, e3, e4⟩ := h.ex
  exact get_F e2 (by rw [← List.length_map (·.z), e4]; exact hj)
end Go.Proofs.Ytgnfobnkhjlbbaa
/- One integer appended where there is room. Conditions: none. -/
namespace Go.Proofs.Ytgnfobnkhjlbbaa
open Go.RowKit Big

theorem step_roomP {P : Program} {t e : TypeId} {z : Value} {by_ : Nat} (ht : P.underlying t = some (.slice e)) (hinf : (P.info? e).map (fun i => (i.zero, i.size, i.bytes)) = some (some z, 2, by_)) {w : World} {ops : Array Oper} {o : Oper} {a : Act} {K : Act → World → Prop} {Q : Exit → Act → World → Prop} {E : Prop} (hgd : o.guard = none) (s x : Operand)
    (ho : o.op = .call { callee := .builtin .append, args := #[s, x], argTypes := #[t, t] }) (b off sLen sCap g' c' : Nat) (v0 v1 : Value) {u0 u1 : Value} (hs : a.eval s = .slice (some ⟨b, off, none⟩) sLen sCap) (hx : a.eval x = .slice (some ⟨g', 0, none⟩) 1 c')
    (hroom : sLen + 1 ≤ sCap) (c0 : w.cell? ⟨g', 0, none⟩ = some v0) (c1 : w.cell? ⟨g', 1, none⟩ = some v1) (o0 : v0.oneCell' = true) (o1 : v1.oneCell' = true) (d0 : w.cell? ⟨b, off + sLen * 2, none⟩ = some u0) (d1 : w.cell? ⟨b, off + sLen * 2 + 1, none⟩ = some u1) (f : ∀ i, w.frozen? ⟨b, i, none⟩ = false)
    (h : K (a.put o.dst (.slice (some ⟨b, off, none⟩) (sLen + 1) sCap)) ((w.setCell ⟨b, off + sLen * 2, none⟩ v0).setCell ⟨b, off + sLen * 2 + 1, none⟩ v1)) :
    if Region.wanted o (yielded ops a.tmps) = true then Oper.wp P o a w K Q else E := by
  have hw : Region.wanted o (yielded ops a.tmps) = true := by simp [Region.wanted, hgd]
  rw [if_pos hw]
  cases hi : P.info? e with
  | none => rw [hi] at hinf; simp at hinf
  | some i =>
    rw [hi] at hinf
    simp only [Option.map_some, Option.some.injEq, Prod.mk.injEq] at hinf
    obtain ⟨_, h2, _⟩ := hinf
    have hsrc : Src P i.size t (.slice (some ⟨g', 0, none⟩) 1 c') 1 [v0, v1] w := Src.ofSlice (w := w) ht ⟨g', 0, none⟩ 1 c' [v0, v1] (by rw [h2]; rfl) (fun j u hu => by
      rw [Addr.add_mid]
      match j, hu with
      | 0, hu => obtain rfl := Option.some.inj hu; rwa [Nat.add_zero]
      | 1, hu => obtain rfl := Option.some.inj hu; exact c1) (fun u hu => by
      simp only [List.mem_cons, List.not_mem_nil, or_false] at hu
      rcases hu with rfl | rfl
      · exact o0
      · exact o1)
    have hrun := run_append_room_src (P := P) w t t o.type e i ht hi b off sLen sCap _ 1 [v0, v1] hsrc hroom (fun j hj => by
      rw [h2]
      match j, hj with
      | 0, _ => rw [Nat.add_zero, d0]; rfl
      | 1, _ => rw [d1]; rfl) (fun j hj => f _)
    rw [h2] at hrun
    unfold Oper.wp execOp
    simp only [ho, resolve, invoke, builtin, Sem.run_bind, Sem.run_pure, Result.andThen_ok, List.map_toArray, List.map_cons, List.map_nil, hs, hx, hrun]
    exact h
theorem array_at9 (w : World) (g : Nat) : (Instr.arrayAt 55 (.slice (some ⟨g, 0, none⟩) 9 9)).run Try.prog w = .ok (.pointer (some ⟨g, 0, none⟩)) w := by
  unfold Instr.arrayAt
  simp [Sem.run_bind, run_underlying T55u w]
theorem enterR4 {w : World} {c0 c1 c2 c3 : List Value} {t0 t1 t2 t3 : TypeId} {P : World → Prop}
    (H : ∀ u, Below w.heap.size w u → u.rangeAt w.heap.size 0 c0 → u.rangeAt (w.heap.size + 1) 0 c1 → u.rangeAt (w.heap.size + 1 + 1) 0 c2 → u.rangeAt (w.heap.size + 1 + 1 + 1) 0 c3 → Zn u (w.heap.size + 1 + 1 + 1) → Hid (u.heap.size = w.heap.size + 1 + 1 + 1 + 1) → P u) :
    P ((((w.alloc (.cells c0.toArray t0)).alloc (.cells c1.toArray t1)).alloc (.cells c2.toArray t2)).alloc (.cells c3.toArray t3)) := by
  refine enterR3 (P := fun v => P (v.alloc (.cells c3.toArray t3))) fun v hb r0 r1 r2 z0 z1 z2 hs => ?_
  have h3 := rng_alloc (w := v) (cs := c3) (t := t3)
  have z3 := Zn.new_ (w := v) (cs := c3.toArray) (t := t3)
  rw [hs.out] at h3 z3
  have hv : Below v.heap.size v (v.alloc (.cells c3.toArray t3)) := (Below.refl _ _).alloc (Nat.le_refl _) _
  exact H _ (bel_step hb hv) (rng_below r0 hv) (rng_below r1 hv) (rng_below r2 hv) h3 z3 (by unfold Hid; simp [hs.out])
/-- a whole array stored into a box made for it, whatever its size -/
theorem store_newN {P : Program} {w : World} {l : List ZE} {zs : List Value} (t : TypeId) (hl : (cellsM l).length = zs.length) (hi : (P.info? t).map (·.size) = some zs.length) :
    (storeCells ⟨w.heap.size, 0, none⟩ (cellsM l)).run P (w.alloc (.cells zs.toArray t)) = .ok () (w.alloc (.cells (cellsM l).toArray t)) := by
  have := run_storeCells_new (P := P) w t zs.toArray (cellsM l).toArray (by simpa [hl] using hi) (by simp [hl]) (all_oneCell_toArray (cellsM_one l))
  simpa using this
theorem three {α : Type} (l : List α) (h : l.length = 3) : ∃ a b c, l = [a, b, c] := by
  match l, h with
  | [a, b, c], _ => exact ⟨a, b, c, rfl⟩
theorem Fil.set3 {w wr : World} {kp : List (Nat × List Value)} {gm : Nat} {zs : List Int} (h : Fil w kp gm zs wr) {j : Nat} (hj : 3 * j + 2 < zs.length) (p q r : ZE) (op : p.ok wr) (oq : q.ok wr) (or_ : r.ok wr) :
    Fil w kp gm (((zs.set (3 * j) p.z).set (3 * j + 1) q.z).set (3 * j + 2) r.z) ((((((wr.setCell ⟨gm, j * 6, none⟩ (.bool p.b)).setCell ⟨gm, j * 6 + 1, none⟩ (.slice p.A p.n p.c)).setCell ⟨gm, j * 6 + 2, none⟩ (.bool q.b)).setCell ⟨gm, j * 6 + 3, none⟩ (.slice q.A q.n q.c)).setCell ⟨gm, j * 6 + 4, none⟩ (.bool r.b)).setCell ⟨gm, j * 6 + 5, none⟩ (.slice r.A r.n r.c)) := by
  obtain ⟨lm, e2, e3, e4⟩ := h.ex
  have hlm : lm.length = zs.length := by rw [← List.length_map (·.z), e4]
  rw [show j * 6 + 5 = (3 * j + 2) * 2 + 1 by omega, show j * 6 + 4 = (3 * j + 2) * 2 by omega, show j * 6 + 3 = (3 * j + 1) * 2 + 1 by omega, show j * 6 + 2 = (3 * j + 1) * 2 by omega, show j * 6 + 1 = (3 * j) * 2 + 1 by omega, show j * 6 = (3 * j) * 2 by omega]
  have hA := h.set (j := 3 * j) (by omega) op.i op.m
  have mA : ∀ A' c' xs', Mg wr A' c' xs' → Mg ((wr.setCell ⟨gm, 3 * j * 2, none⟩ (.bool p.b)).setCell ⟨gm, 3 * j * 2 + 1, none⟩ (.slice p.A p.n p.c)) A' c' xs' := fun _ _ _ hh => set_M_mg e2 (by omega) hh
  obtain ⟨lm2, e2', e3', e4'⟩ := hA.ex
  have hlm2 : lm2.length = zs.length := by rw [← List.length_map (·.z), e4']; simp
  have hB := hA.set (j := 3 * j + 1) (by simp; omega) oq.i (mA _ _ _ oq.m)
  have mB := fun (A' : Option Addr) (c' : Nat) (xs' : List Nat) (hh : Mg ((wr.setCell ⟨gm, 3 * j * 2, none⟩ (.bool p.b)).setCell ⟨gm, 3 * j * 2 + 1, none⟩ (.slice p.A p.n p.c)) A' c' xs') => set_M_mg (j := 3 * j + 1) (u0 := .bool q.b) (u1 := .slice q.A q.n q.c) e2' (by omega) hh
  exact hB.set (j := 3 * j + 2) (by simp; omega) or_.i (mB _ _ _ (mA _ _ _ or_.m))
theorem Fil.cell3 {w wr : World} {kp : List (Nat × List Value)} {gm : Nat} {zs : List Int} (h : Fil w kp gm zs wr) {j : Nat} (hj : 3 * j + 2 < zs.length) :
    ∃ b0 A0 n0 c0 b1 A1 n1 c1 b2 A2 n2 c2, wr.cell? ⟨gm, j * 6, none⟩ = some (.bool b0) ∧ wr.cell? ⟨gm, j * 6 + 1, none⟩ = some (.slice A0 n0 c0) ∧ wr.cell? ⟨gm, j * 6 + 2, none⟩ = some (.bool b1) ∧ wr.cell? ⟨gm, j * 6 + 3, none⟩ = some (.slice A1 n1 c1) ∧ wr.cell? ⟨gm, j * 6 + 4, none⟩ = some (.bool b2) ∧ wr.cell? ⟨gm, j * 6 + 5, none⟩ = some (.slice A2 n2 c2) := by
  obtain ⟨x, _, _, x0, x1⟩ := h.cell (j := 3 * j) (by omega)
  obtain ⟨y, _, _, y0, y1⟩ := h.cell (j := 3 * j + 1) (by omega)
  obtain ⟨z, _, _, z0, z1⟩ := h.cell (j := 3 * j + 2) hj
  rw [show (3 * j) * 2 = j * 6 by omega] at x0 x1
  rw [show (3 * j + 1) * 2 = j * 6 + 2 by omega] at y0 y1
  rw [show (3 * j + 2) * 2 = j * 6 + 4 by omega] at z0 z1
  exact ⟨_, _, _, _, _, _, _, _, _, _, _, _, x0, x1, y0, y1, z0, z1⟩
theorem four_at {l : List ZE} {j : Nat} (hj : 4 * j + 3 < l.length) : (l.drop (4 * j)).take 4 = [l[4 * j], l[4 * j + 1], l[4 * j + 2], l[4 * j + 3]] := by
  rw [List.drop_eq_getElem_cons (by omega), List.drop_eq_getElem_cons (by omega), List.drop_eq_getElem_cons (by omega), List.drop_eq_getElem_cons (by omega)]
  rfl
theorem T29u : Try.prog.underlying 29 = some (.array 4 28) := Try.underlying29
theorem run_index_P (w : World) (l : List ZE) (hl : l.length = 16) (j : Nat) (hj : 4 * j + 3 < l.length) :
    (Instr.index 29 (.agg (cellsM l).toArray) (.int .i64 j)).run Try.prog w = .ok (.agg (cellsM [l[4 * j], l[4 * j + 1], l[4 * j + 2], l[4 * j + 3]]).toArray) w := by
  have := run_index_G w l 29 _ 4 4 hl T29u (by simp [Try.sizeOf28]) (by simp [Try.isAgg28]) j (by omega)
  rw [four_at hj] at this
  exact this
theorem set3_replicate (A : List Int) (x y z : Int) (m : Nat) : (((A ++ List.replicate (m + 3) 0).set A.length x).set (A.length + 1) y).set (A.length + 2) z = A ++ [x, y, z] ++ List.replicate m 0 := by
  rw [List.set_append_right _ _ (Nat.le_refl _), Nat.sub_self, List.set_append_right _ _ (by omega), Nat.add_sub_cancel_left, List.set_append_right _ _ (by omega), Nat.add_sub_cancel_left]
  simp [List.replicate_succ]
/-- a block that was made ahead of a call -/
theorem alloc_drew {u v : World} {c : List Value} {t : TypeId} (hq : Below (u.alloc (.cells c.toArray t)).drew.heap.size (u.alloc (.cells c.toArray t)).drew v) : v.rangeAt u.heap.size 0 c ∧ Zn v u.heap.size := by
  have h1 : (u.alloc (.cells c.toArray t)).drew.rangeAt u.heap.size 0 c := fun j v hv => keep_drew (rng_alloc j v hv)
  have z : Zn (u.alloc (.cells c.toArray t)) u.heap.size := Zn.new_
  have z1 : Zn (u.alloc (.cells c.toArray t)).drew u.heap.size := ⟨z.lt, z.fr⟩
  exact ⟨rng_below h1 hq, z1.below hq⟩
theorem alloc_plain {u v : World} {c : List Value} {t : TypeId} (hq : Below (u.alloc (.cells c.toArray t)).heap.size (u.alloc (.cells c.toArray t)) v) : v.rangeAt u.heap.size 0 c ∧ Zn v u.heap.size :=
  ⟨rng_below rng_alloc hq, Zn.new_.below hq⟩
def zeros3 : List ZE := List.replicate 3 ZE.zero
/-- three integers in a block -/
structure Tri (u : World) (g : Nat) (fs : List Int) (wx : World) : Prop where
  b : Below u.heap.size u wx
  hg : u.heap.size ≤ g
  z : Zn wx g
  ex : ∃ f0 f1 f2 : ZE, wx.rangeAt g 0 (cellsM [f0, f1, f2]) ∧ (∀ e ∈ [f0, f1, f2], e.ok wx) ∧ [f0.z, f1.z, f2.z] = fs
/-- three integers stored into a block -/
theorem Tri.set {u W : World} {g : Nat} (hr : W.rangeAt g 0 (cellsM zeros3)) (z : Zn W g) (hb : Below u.heap.size u W) (hg : u.heap.size ≤ g) {f0 f1 f2 : ZE} (o0 : f0.ok W) (o1 : f1.ok W) (o2 : f2.ok W) :
    Tri u g [f0.z, f1.z, f2.z] ((((((W.setCell ⟨g, 0, none⟩ (.bool f0.b)).setCell ⟨g, 1, none⟩ (.slice f0.A f0.n f0.c)).setCell ⟨g, 2, none⟩ (.bool f1.b)).setCell ⟨g, 3, none⟩ (.slice f1.A f1.n f1.c)).setCell ⟨g, 4, none⟩ (.bool f2.b)).setCell ⟨g, 5, none⟩ (.slice f2.A f2.n f2.c)) := by
  have F := fin_M (w := u) (l := [f0, f1, f2]) hb hg hr z rfl (cellsM_npl zeros3) (by
    intro e he
    simp only [List.mem_cons, List.not_mem_nil, or_false] at he
    rcases he with rfl | rfl | rfl
    · exact o0
    · exact o1
    · exact o2)
  exact ⟨F.1, hg, F.2.2.2, f0, f1, f2, F.2.1, F.2.2.1, rfl⟩
theorem Tri.new {u W : World} {f0 f1 f2 : ZE} {t : TypeId} (hb : Below u.heap.size u W) (o0 : f0.ok W) (o1 : f1.ok W) (o2 : f2.ok W) :
    Tri u W.heap.size [f0.z, f1.z, f2.z] (W.alloc (.cells #[.bool f0.b, .slice f0.A f0.n f0.c, .bool f1.b, .slice f1.A f1.n f1.c, .bool f2.b, .slice f2.A f2.n f2.c] t)) := by
  have hv : Below W.heap.size W (W.alloc (.cells #[.bool f0.b, .slice f0.A f0.n f0.c, .bool f1.b, .slice f1.A f1.n f1.c, .bool f2.b, .slice f2.A f2.n f2.c] t)) := (Below.refl _ _).alloc (Nat.le_refl _) _
  refine ⟨bel_step hb hv, hb.size, Zn.new_, f0, f1, f2, rng_alloc (cs := cellsM [f0, f1, f2]), fun e he => ?_, rfl⟩
  simp only [List.mem_cons, List.not_mem_nil, or_false] at he
  rcases he with rfl | rfl | rfl
  · exact o0.below hv
  · exact o1.below hv
  · exact o2.below hv
end Go.Proofs.Ytgnfobnkhjlbbaa
/- Rows of fractions that a call owns, and appends to them. Conditions: none. -/
namespace Go.Proofs.Ytgnfobnkhjlbbaa
open Go.RowKit Big
section
variable {P : Program}
theorem own_belowN {w w' : World} {base : Nat} {e : TypeId} {s : Nat} {v : Value} {n : Nat} {xs : List Value} (h : w.ownsRow base e s v n xs) (hb : Below w.heap.size w w') : w'.ownsRow base e s v n xs := by
  refine ⟨h.1, ?_⟩
  rcases h.2 with h2 | ⟨g, cap, cur, hv, hg, hh, r⟩
  · exact .inl h2
  · exact .inr ⟨g, cap, cur, hv, hg, (hb.block g (Array.getElem?_eq_some_iff.1 hh).1).trans hh, r⟩
theorem own_range {w : World} {base : Nat} {e : TypeId} {s : Nat} {v : Value} {n : Nat} {xs : List Value} (h : w.ownsRow base e s v n xs) (hn : 0 < n) :
    ∃ g cap, v = .slice (some ⟨g, 0, none⟩) n cap ∧ base ≤ g ∧ w.rangeAt g 0 xs ∧ n ≤ cap ∧ cap ≤ maxLen := by
  rcases h.2 with ⟨_, h1⟩ | ⟨g, cap, cur, hv, hbg, hg, hnc, hmx, hcs, htake⟩
  · omega
  · refine ⟨g, cap, hv, hbg, fun j u hu => ?_, hnc, hmx⟩
    have hj : j < xs.length := (List.getElem?_eq_some_iff.1 hu).1
    have hl := h.1
    rw [← htake, List.getElem?_take, if_pos (by omega)] at hu
    rw [Nat.zero_add, cell_of_row w g _ cur _ _ hg]
    simpa using hu
theorem below_appN {w w' : World} {base : Nat} {e : TypeId} {s : Nat} {v : Value} {n : Nat} {xs : List Value} (hown : w.ownsRow base e s v n xs) (hg : w.grownBy w' v.ownBlock) (hbase : base ≤ w.heap.size) : Below base w w' :=
  (Below.refl base w).grown hg hbase fun k hk => (hown.lt k hk).1
end
theorem info26 : (Try.prog.info? 26).map (fun i => (i.zero, i.size, i.bytes)) = some (some (.agg #[.bool false, .slice none 0 0, .bool false, .slice none 0 0]), 4, 64) := by kernel_rfl
theorem run_appF {w : World} (ty : TypeId) (base : Nat) (v : Value) (n : Nat) (cs : List Value) (hown : w.ownsRow base 26 4 v n cs) (a : Addr) (m c : Nat) (news : List Value) (hl : news.length = m * 4) (hnews : ∀ j u, news[j]? = some u → w.cell? (a.add j) = some u) (h1 : ∀ u ∈ news, u.oneCell' = true) (hn : n + m ≤ 1000) (hbase : base ≤ w.heap.size) :
    ∃ v' w', (Builtin.append_ #[48, 48] ty #[v, .slice (some a) m c]).run Try.prog w = .ok v' w' ∧ w'.ownsRow base 26 4 v' (n + m) (cs ++ news) ∧ Below base w w' := by
  obtain ⟨i, hi, hzz⟩ := Option.map_eq_some_iff.1 info26
  simp only [Prod.mk.injEq] at hzz
  obtain ⟨hz, hs2, hb⟩ := hzz
  have hul : Try.prog.underlying 48 = some (.slice 26) := Try.underlying48
  obtain ⟨v', w', hrun, h2, h3, _, _⟩ := run_append_own_at (P := Try.prog) w base 48 ty 26 i _ 4 64 hul hi hz hs2 hb rfl (by omega) v n cs hown a m c news hl hnews h1 (by unfold maxLen; omega) (by omega) hbase
  exact ⟨v', w', hrun, h2, below_appN hown h3 hbase⟩
theorem wpList_appF {w : World} {ops : Array Oper} {rest : List Oper} {o : Oper} {a : Act} {Q : Exit → Act → World → Prop} (hgd : o.guard = none) (s x : Operand)
    (ho : o.op = .call { callee := .builtin .append, args := #[s, x], argTypes := #[48, 48] })
    (base : Nat) (v : Value) (n : Nat) (cs : List Value) (hs : a.eval s = v) (hown : w.ownsRow base 26 4 v n cs) (g m c : Nat) (hx : a.eval x = .slice (some ⟨g, 0, none⟩) m c) (news : List Value) (hl : news.length = m * 4) (hr : w.rangeAt g 0 news) (h1 : ∀ u ∈ news, u.oneCell' = true) (hn : n + m ≤ 1000) (hbase : base ≤ w.heap.size)
    (h : ∀ v' w', w'.ownsRow base 26 4 v' (n + m) (cs ++ news) → Below base w w' → wpList Try.prog ops Q rest (a.put o.dst v') w') : wpList Try.prog ops Q (o :: rest) a w := by
  refine wpList_plain hgd fun _ hK => ?_
  obtain ⟨v', w', hrun, h2, h3⟩ := run_appF o.type base v n cs hown ⟨g, 0, none⟩ m c news hl (fun j u hu => by rw [Addr.add_mid]; exact hr j u hu) h1 hn hbase
  unfold Oper.wp execOp
  simp only [ho, resolve, invoke, builtin, Sem.run_bind, Sem.run_pure, Result.andThen_ok, List.map_toArray, List.map_cons, List.map_nil, hs, hx, hrun]
  exact hK _ _ (h v' w' h2 h3)
theorem step_appF {w : World} {ops : Array Oper} {o : Oper} {a : Act} {K : Act → World → Prop} {Q : Exit → Act → World → Prop} {E : Prop} (hgd : o.guard = none) (s x : Operand)
    (ho : o.op = .call { callee := .builtin .append, args := #[s, x], argTypes := #[48, 48] })
    (base : Nat) (v : Value) (n : Nat) (cs : List Value) (hs : a.eval s = v) (hown : w.ownsRow base 26 4 v n cs) (g m c : Nat) (hx : a.eval x = .slice (some ⟨g, 0, none⟩) m c) (news : List Value) (hl : news.length = m * 4) (hr : w.rangeAt g 0 news) (h1 : ∀ u ∈ news, u.oneCell' = true) (hn : n + m ≤ 1000) (hbase : base ≤ w.heap.size)
    (h : ∀ v' w', w'.ownsRow base 26 4 v' (n + m) (cs ++ news) → Below base w w' → K (a.put o.dst v') w') :
    if Region.wanted o (yielded ops a.tmps) = true then Oper.wp Try.prog o a w K Q else E := by
  have hw : Region.wanted o (yielded ops a.tmps) = true := by simp [Region.wanted, hgd]
  rw [if_pos hw]
  obtain ⟨v', w', hrun, h2, h3⟩ := run_appF o.type base v n cs hown ⟨g, 0, none⟩ m c news hl (fun j u hu => by rw [Addr.add_mid]; exact hr j u hu) h1 hn hbase
  unfold Oper.wp execOp
  simp only [ho, resolve, invoke, builtin, Sem.run_bind, Sem.run_pure, Result.andThen_ok, List.map_toArray, List.map_cons, List.map_nil, hs, hx, hrun]
  exact h v' w' h2 h3
theorem zl_take (fs : List Rf) (j : Nat) (hj : 2 * j + 1 < fs.length) : zl (fs.take (2 * (j + 1))) = zl (fs.take (2 * j)) ++ (fs[2 * j].ze ++ fs[2 * j + 1].ze) := by
  rw [show 2 * (j + 1) = 2 * j + 1 + 1 by omega, List.take_succ_eq_append_getElem hj, List.take_succ_eq_append_getElem (by omega), zl_app, zl_app]
  simp [zl]
end Go.Proofs.Ytgnfobnkhjlbbaa
