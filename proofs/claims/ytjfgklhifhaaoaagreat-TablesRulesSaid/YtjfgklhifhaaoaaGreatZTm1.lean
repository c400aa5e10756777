/- A map from pairs of numbers to numbers, told by what its keys hold. Conditions: none. -/
import Derived.Test.YtjfgklhifhaaoaaGreatZTe1
import Derived.Laws.StructEq
set_option linter.unusedVariables false
set_option linter.unusedSimpArgs false
namespace Go.Proofs.YtjfgklhifhaaoaaGreat
open Go.RowKit
def keyV (r : Nat × Nat) : Value := .agg #[.int .i64 (r.1 : Int), .int .i64 (r.2 : Int)]
def ent2 (p : (Nat × Nat) × Nat × Nat) : MapEntry := { key := keyV p.1, val := .int .i64 (p.2.1 : Int), born := p.2.2 }
def map2 (E : List ((Nat × Nat) × Nat × Nat)) : Array MapEntry := (E.map ent2).toArray
/-- what the entries hold at a key -/
def at2 (E : List ((Nat × Nat) × Nat × Nat)) (r : Nat × Nat) : Option Nat := (E.find? fun p => p.1 = r).map (·.2.1)
theorem at2_nil (r : Nat × Nat) : at2 [] r = none := rfl
theorem at2_cons (p : (Nat × Nat) × Nat × Nat) (E : List ((Nat × Nat) × Nat × Nat)) (r : Nat × Nat) : at2 (p :: E) r = if p.1 = r then some p.2.1 else at2 E r := by
 unfold at2
 rw [List.find?_cons]
 by_cases h : p.1 = r
 ·rw [if_pos h]; simp [h]
 ·rw [if_neg h]; simp [h]
theorem at2_none : ∀ {E : List ((Nat × Nat) × Nat × Nat)} {r : Nat × Nat}, at2 E r = none ↔ ∀ p ∈ E, p.1 ≠ r
 | [], r => by simp [at2_nil]
 | p :: E, r => by
  rw [at2_cons]
  by_cases h : p.1 = r
  ·rw [if_pos h]; simp [h]
  ·rw [if_neg h, at2_none]; simp [h]
theorem at2_some : ∀ {E : List ((Nat × Nat) × Nat × Nat)} {r : Nat × Nat} {v : Nat}, at2 E r = some v → ∃ E1 E2 n, E = E1 ++ (r, v, n) :: E2 ∧ ∀ p ∈ E1, p.1 ≠ r
 | [], r, v, h => by cases h
 | p :: E, r, v, h => by
  rw [at2_cons] at h
  by_cases e : p.1 = r
  ·rw [if_pos e] at h
   obtain ⟨p1, p2, p3⟩ := p
   obtain rfl := Option.some.inj h
   exact ⟨[], E, p3, by simp at e; simp [e], fun _ h => by cases h⟩
  ·rw [if_neg e] at h
   obtain ⟨E1, E2, n, rfl, h1⟩ := at2_some h
   exact ⟨p :: E1, E2, n, rfl, fun q hq => by
    rcases List.mem_cons.1 hq with rfl | hq
    ·exact e
    ·exact h1 q hq⟩
theorem at2_app : ∀ (E F : List ((Nat × Nat) × Nat × Nat)) (r : Nat × Nat), at2 (E ++ F) r = (at2 E r).or (at2 F r)
 | [], F, r => by simp [at2_nil]
 | p :: E, F, r => by
  rw [List.cons_append, at2_cons, at2_cons, at2_app E F r]
  split <;> simp
theorem eqRn (d : Nat) (a0 a1 b0 b1 : Int) (w : World) : (Op.equalIn (d + 2) 99 (.agg #[.int .i64 a0, .int .i64 a1]) (.agg #[.int .i64 b0, .int .i64 b1])).run Tryz.prog w = .ok (decide (a0 = b0) && decide (a1 = b1)) w := by
 have u3 := Tryz.underlying3
 have a3 := Tryz.isAgg3
 have z3 := Tryz.sizeOf3
 have hS : Tryz.prog.underlying 99 = some (.struct (Tryz.prog.fieldsOf 99)) := by kernel_rfl
 have hp : Tryz.prog.stoodInHeld 99 = false := by kernel_rfl
 rw [run_equalIn_agg w (d + 1) 99 _ _ hS hp]
 simp only [Program.fieldsOf, Tryz.underlying99]
 go_simp
 by_cases h1 : a0 = b0 <;> by_cases h2 : a1 = b1 <;> simp [h1, h2]
theorem eq2 (r s : Nat × Nat) (w : World) : (Op.equal 99 (keyV r) (keyV s)).run Tryz.prog w = .ok (decide (r = s)) w := by
 obtain ⟨a, b⟩ := r
 obtain ⟨c, d⟩ := s
 have e : (decide ((a, b) = (c, d)) : Bool) = (decide ((a : Int) = (c : Int)) && decide ((b : Int) = (d : Int))) := by
  by_cases h1 : a = c <;> by_cases h2 : b = d <;> simp [h1, h2] <;> omega
 rw [e]
 exact eqRn 9998 a b c d w
theorem check2 (e : Bool) (r : Nat × Nat) (w : World) : (Instr.checkKey e 10000 99 (keyV r)).run Tryz.prog w = .ok () w := by
 have u3 := Tryz.underlying3
 have a3 := Tryz.isAgg3
 have z3 := Tryz.sizeOf3
 have hin : ∀ (x : Int) (w : World), (Instr.checkKey e 9999 3 (.int .i64 x)).run Tryz.prog w = .ok () w := fun x w => by
  rw [show (9999 : Nat) = 9998 + 1 from rfl, Instr.checkKey]
  simp [run_underlying u3, Result.andThen]
 unfold keyV
 rw [show (10000 : Nat) = 9999 + 1 from rfl, Instr.checkKey]
 generalize Instr.checkKey e 9999 = ck at *
 simp only [Sem.run_bind, run_underlying Tryz.underlying99, Result.andThen_ok]
 simp [part, Sem.run_bind, a3, z3, hin]
theorem find2_no : ∀ (E : List ((Nat × Nat) × Nat × Nat)) (r : Nat × Nat) (i : Nat) (w : World), at2 E r = none → (Instr.findAsking 99 (keyV r) (E.map ent2) i).run Tryz.prog w = .ok none w
 | [], r, i, w, _ => rfl
 | p :: E, r, i, w, h => by
  rw [at2_cons] at h
  by_cases e : p.1 = r
  ·rw [if_pos e] at h; cases h
  ·rw [if_neg e] at h
   have h1 : (decide (r = p.1)) = false := decide_eq_false fun x => e x.symm
   rw [List.map_cons, Instr.findAsking, Sem.run_bind, show (ent2 p).key = keyV p.1 from rfl, eq2, h1]
   simp only [Result.andThen_ok]
   exact find2_no E r (i + 1) w h
theorem find2_at : ∀ (E1 : List ((Nat × Nat) × Nat × Nat)) (r : Nat × Nat) (v n : Nat) (E2 : List ((Nat × Nat) × Nat × Nat)) (i : Nat) (w : World), (∀ p ∈ E1, p.1 ≠ r) →
  (Instr.findAsking 99 (keyV r) ((E1 ++ (r, v, n) :: E2).map ent2) i).run Tryz.prog w = .ok (some (i + E1.length, .int .i64 (v : Int))) w
 | [], r, v, n, E2, i, w, _ => by
  rw [List.nil_append, List.map_cons, Instr.findAsking, Sem.run_bind, show (ent2 (r, v, n)).key = keyV r from rfl, eq2, decide_eq_true rfl]
  rfl
 | p :: E1, r, v, n, E2, i, w, h => by
  have h1 : (decide (r = p.1)) = false := decide_eq_false fun x => h p (List.mem_cons_self ..) x.symm
  rw [List.cons_append, List.map_cons, Instr.findAsking, Sem.run_bind, show (ent2 p).key = keyV p.1 from rfl, eq2, h1]
  simp only [Result.andThen_ok]
  have := find2_at E1 r v n E2 (i + 1) w (fun q hq => h q (List.mem_cons_of_mem _ hq))
  rw [show i + 1 + E1.length = i + (p :: E1).length by simp only [List.length_cons]; omega] at this
  exact this
theorem now2 : ∀ (kind : TypeDesc) (k : Value) (e : MapEntry) (es : List MapEntry) (i : Nat), Instr.sameNow kind k e.key = none → Instr.findNow kind k (e :: es) i = none := fun kind k e es i h => by
 rw [Instr.findNow, h]
theorem findK_no {E : List ((Nat × Nat) × Nat × Nat)} {r : Nat × Nat} (h : at2 E r = none) (w : World) : (Instr.findKey 99 (keyV r) (map2 E).toList).run Tryz.prog w = .ok none w := by
 unfold Instr.findKey
 rw [Sem.run_bind, run_underlying Tryz.underlying99]
 cases E with
 | nil => rfl
 | cons p E =>
  simp only [Result.andThen_ok, show (map2 (p :: E)).toList = ent2 p :: E.map ent2 from rfl]
  rw [now2 _ _ _ _ _ rfl]
  exact find2_no (p :: E) r 0 w h
theorem findK_at {E1 E2 : List ((Nat × Nat) × Nat × Nat)} {r : Nat × Nat} {v n : Nat} (h : ∀ p ∈ E1, p.1 ≠ r) (w : World) : (Instr.findKey 99 (keyV r) (map2 (E1 ++ (r, v, n) :: E2)).toList).run Tryz.prog w = .ok (some (E1.length, .int .i64 (v : Int))) w := by
 unfold Instr.findKey
 rw [Sem.run_bind, run_underlying Tryz.underlying99]
 obtain ⟨p, F, hF⟩ : ∃ p F, E1 ++ (r, v, n) :: E2 = p :: F := by
  cases E1 with
  | nil => exact ⟨_, _, rfl⟩
  | cons p F => exact ⟨p, _, rfl⟩
 have h2 := find2_at E1 r v n E2 0 w h
 rw [hF] at h2 ⊢
 simp only [Result.andThen_ok, show (map2 (p :: F)).toList = ent2 p :: F.map ent2 from rfl]
 rw [now2 _ _ _ _ _ rfl]
 rw [Nat.zero_add] at h2
 exact h2
/-- block b holds a map that has the values f -/
def MapR (w : World) (b : Nat) (f : Nat × Nat → Option Nat) : Prop := ∃ E c, w.heap[b]? = some (.map (map2 E) c) ∧ (∀ r, at2 E r = f r) ∧ (E.map (·.1)).Nodup
/-- one key gets another value -/
def updM (f : Nat × Nat → Option Nat) (r : Nat × Nat) (o : Option Nat) : Nat × Nat → Option Nat := fun s => if s = r then o else f s
theorem MapR.made (w : World) : MapR (w.alloc (.map #[] 0)) w.heap.size fun _ => none := ⟨[], 0, heap_alloc_new _ _, fun r => rfl, List.nodup_nil⟩
theorem MapR.lt {w : World} {b : Nat} {f : Nat × Nat → Option Nat} (h : MapR w b f) : b < w.heap.size := by
 obtain ⟨E, c, hb, _⟩ := h
 exact (Array.getElem?_eq_some_iff.1 hb).1
theorem MapR.kept {w w' : World} {b : Nat} {f : Nat × Nat → Option Nat} (h : MapR w b f) (hb : w'.heap[b]? = w.heap[b]?) : MapR w' b f := by
 obtain ⟨E, c, h1, h2⟩ := h
 exact ⟨E, c, hb.trans h1, h2⟩
theorem MapR.below {w w' : World} {b : Nat} {f : Nat × Nat → Option Nat} (h : MapR w b f) (hb : Below w.heap.size w w') : MapR w' b f := h.kept (hb.block b h.lt)
theorem MapR.grown {w w' : World} {b : Nat} {f : Nat × Nat → Option Nat} {row : Option Nat} (h : MapR w b f) (hg : w.grownBy w' row) (hne : some b ≠ row) : MapR w' b f := h.kept (hg.block b h.lt hne)
theorem MapR.cast {w : World} {b : Nat} {f g : Nat × Nat → Option Nat} (h : MapR w b f) (e : ∀ r, f r = g r) : MapR w b g := by
 obtain ⟨E, c, h1, h2, h3⟩ := h
 exact ⟨E, c, h1, fun r => (h2 r).trans (e r), h3⟩
/-- what a lookup gives -/
def lookV (o : Option Nat) (t : Bool) : Value := if t then .tuple #[.int .i64 ((o.getD 0 : Nat) : Int), .bool o.isSome] else .int .i64 ((o.getD 0 : Nat) : Int)
theorem MapR.look {w : World} {b : Nat} {f : Nat × Nat → Option Nat} (h : MapR w b f) (r : Nat × Nat) (t : Bool) : (Instr.lookup 97 (.map (some b)) (keyV r) t).run Tryz.prog w = .ok (lookV (f r) t) w := by
 obtain ⟨E, c, h1, h2, h3⟩ := h
 have ht := Tryz.underlying97
 rw [← h2]
 cases hr : at2 E r with
 | none =>
  have hf := findK_no hr
  cases t <;> simp [Instr.lookup, run_underlying ht, MapKept.run_getObj_map h1, check2, hf, Result.andThen, lookV, Tryz.zeroValue3]
 | some v =>
  obtain ⟨E1, E2, n, rfl, hn⟩ := at2_some hr
  have hf := fun w => findK_at (E2 := E2) (v := v) (n := n) hn w
  cases t <;> simp [Instr.lookup, run_underlying ht, MapKept.run_getObj_map h1, check2, hf, Result.andThen, lookV]
theorem grown_set {w : World} {b : Nat} (o : Obj) (hb : ∃ x, w.heap[b]? = some x) : w.grownBy (ChangeMaps.setBlock w b o) (some b) ∧ (ChangeMaps.setBlock w b o).heap.size = w.heap.size ∧ (ChangeMaps.setBlock w b o).heap[b]? = some o := by
 obtain ⟨x, hx⟩ := hb
 have hlt : b < w.heap.size := (Array.getElem?_eq_some_iff.1 hx).1
 refine ⟨⟨rfl, rfl, rfl, by simp [ChangeMaps.setBlock], fun i hi hne => ?_⟩, by simp [ChangeMaps.setBlock], ?_⟩
 ·have : b ≠ i := fun e => hne (by rw [e])
  simp [ChangeMaps.setBlock, Array.getElem?_setIfInBounds, this]
 ·simp [ChangeMaps.setBlock, Array.getElem?_setIfInBounds, hlt]
theorem MapR.put {w : World} {b : Nat} {f : Nat × Nat → Option Nat} (h : MapR w b f) {r : Nat × Nat} (hr : f r = none) (v : Nat) :
  ∃ w', (Instr.mapUpdate 97 (.map (some b)) (keyV r) (.int .i64 (v : Int))).run Tryz.prog w = .ok () w' ∧ MapR w' b (updM f r (some v)) ∧ w.grownBy w' (some b) ∧ w'.heap.size = w.heap.size := by
 obtain ⟨E, c, h1, h2, h3⟩ := h
 have ht := Tryz.underlying97
 have h0 : at2 E r = none := (h2 r).trans hr
 have hf := findK_no h0
 have e : (map2 E).push { key := keyV r, val := .int .i64 (v : Int), born := c } = map2 (E ++ [(r, v, c)]) := by simp [map2, ent2]
 obtain ⟨g1, g2, g3⟩ := grown_set (.map (map2 (E ++ [(r, v, c)])) (c + 1)) ⟨_, h1⟩
 refine ⟨_, ?_, ⟨E ++ [(r, v, c)], c + 1, g3, fun s => ?_, ?_⟩, g1, g2⟩
 ·simp [Instr.mapUpdate, run_underlying ht, MapKept.run_getObj_map h1, check2, hf, MapKept.run_setObj_map _ h1, Result.andThen, ChangeMaps.setBlock, e]
 ·rw [at2_app, at2_cons, at2_nil, h2]
  unfold updM
  by_cases es : s = r
  ·subst es; rw [hr, if_pos rfl]; rfl
  ·rw [if_neg (fun x => es x.symm), if_neg es, Option.or_none]
 ·rw [List.map_append, List.nodup_append]
  refine ⟨h3, by simp, fun a ha d hd => ?_⟩
  obtain ⟨p, hp, rfl⟩ := List.mem_map.1 ha
  simp at hd
  subst hd
  exact at2_none.1 h0 p hp
theorem era2 {α : Type} (x : α) (M : List α) : ∀ (L : List α), (L ++ x :: M).eraseIdx L.length = L ++ M
 | [] => rfl
 | a :: L => by simp [era2 x M L]
theorem MapR.del {w : World} {b : Nat} {f : Nat × Nat → Option Nat} (h : MapR w b f) {r : Nat × Nat} {v : Nat} (hr : f r = some v) (ty : TypeId) :
  ∃ w', (Builtin.delete_ #[97, 99] ty #[.map (some b), keyV r]).run Tryz.prog w = .ok (.tuple #[]) w' ∧ MapR w' b (updM f r none) ∧ w.grownBy w' (some b) ∧ w'.heap.size = w.heap.size := by
 obtain ⟨E, c, h1, h2, h3⟩ := h
 have ht := Tryz.underlying97
 obtain ⟨E1, E2, n, rfl, hn⟩ := at2_some ((h2 r).trans hr)
 have hf := fun w => findK_at (E2 := E2) (v := v) (n := n) hn w
 have e : (map2 (E1 ++ (r, v, n) :: E2)).eraseIdxIfInBounds E1.length = map2 (E1 ++ E2) := by
  apply Array.toList_inj.1
  rw [Array.toList_eraseIdxIfInBounds]
  show ((E1 ++ (r, v, n) :: E2).map ent2).eraseIdx E1.length = (E1 ++ E2).map ent2
  rw [List.map_append, List.map_append, List.map_cons, show E1.length = (E1.map ent2).length by simp, era2]
 obtain ⟨g1, g2, g3⟩ := grown_set (.map (map2 (E1 ++ E2)) c) ⟨_, h1⟩
 have hnd := h3
 rw [List.map_append, List.map_cons, List.nodup_append, List.nodup_cons] at hnd
 refine ⟨_, ?_, ⟨E1 ++ E2, c, g3, fun s => ?_, ?_⟩, g1, g2⟩
 ·simp [Builtin.delete_, run_underlying ht, MapKept.run_getObj_map h1, check2, hf, MapKept.run_setObj_map _ h1, Result.andThen, ChangeMaps.setBlock, e]
 ·have hs := h2 s
  rw [at2_app, at2_cons] at hs
  rw [at2_app]
  unfold updM
  by_cases es : s = r
  ·subst es
   rw [if_pos rfl, at2_none.2 hn, Option.none_or, at2_none]
   intro p hp e
   exact hnd.2.1.1 (List.mem_map.2 ⟨p, hp, e⟩)
  ·rw [if_neg es, ← hs, if_neg (fun x => es x.symm)]
 ·rw [List.map_append, List.nodup_append]
  exact ⟨hnd.1, hnd.2.1.2, fun a ha d hd => hnd.2.2 a ha d (List.mem_cons_of_mem _ hd)⟩
/-- the update as a step of a walk -/
theorem wpList_put2 {w : World} {ops : Array Oper} {rest : List Oper} {o : Oper} {a : Act} {Q : Exit → Act → World → Prop} (hg : o.guard = none) (m x v : Operand) (hop : o.op = Op.mapUpdate 97 m x v)
  (b : Nat) (f : Nat × Nat → Option Nat) (r : Nat × Nat) (z : Nat) (hM : MapR w b f) (hr : f r = none) (hm : a.eval m = .map (some b)) (hx : a.eval x = keyV r) (hv : a.eval v = .int .i64 (z : Int))
  (hK : ∀ w', MapR w' b (updM f r (some z)) → w.grownBy w' (some b) → w'.heap.size = w.heap.size → wpList Tryz.prog ops Q rest (a.put o.dst undef) w') : wpList Tryz.prog ops Q (o :: rest) a w := by
 refine wpList_plain hg fun K' hK' => ?_
 obtain ⟨w', hrun, h1, h2, h3⟩ := hM.put hr z
 unfold Oper.wp
 simp [execOp, hop, hm, hx, hv, hrun, Result.andThen]
 exact hK' _ _ (hK _ h1 h2 h3)
end Go.Proofs.YtjfgklhifhaaoaaGreat
