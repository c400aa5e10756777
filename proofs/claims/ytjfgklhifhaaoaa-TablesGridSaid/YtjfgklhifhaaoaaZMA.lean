/- A map from pairs of numbers to numbers, told by what its keys hold. Conditions: none. -/
import Derived.Test.YtjfgklhifhaaoaaZTe1
import Derived.Laws.StructEq
import Derived.Test.YtjfgklhifhaaoaaZSA
set_option linter.unusedVariables false
set_option linter.unusedSimpArgs false
namespace Go.Proofs.Ytjfgklhifhaaoaa
open Go.RowKit
def keyV (r : Nat × Nat) : Value := .agg #[.int .i64 (r.1 : Int), .int .i64 (r.2 : Int)]
def ent2 (p : (Nat × Nat) × Nat × Nat) : MapEntry := { key := keyV p.1, val := .int .i64 (p.2.1 : Int), born := p.2.2 }
def map2 (E : List ((Nat × Nat) × Nat × Nat)) : Array MapEntry := (E.map ent2).toArray
/-- what the entries hold at a key -/
def at2 (E : List ((Nat × Nat) × Nat × Nat)) (r : Nat × Nat) : Option Nat := (E.find? fun p => p.1 = r).map (·.2.1)
theorem at2_nil (r : Nat × Nat) : at2 [] r = none := rfl
theorem at2_cons (p : (Nat × Nat) × Nat × Nat) (E : List ((Nat × Nat) × Nat × Nat)) (r : Nat × Nat) : at2 (p :: E) r = if p.1 = r then some p.2.1 else at2 E r := by
 unfold at2
 rw [List.find?_cons]
 by_cases h : p.1 = r
 ·rw [if_pos h]; simp [h]
 ·rw [if_neg h]; simp [h]
theorem at2_none : ∀ {E : List ((Nat × Nat) × Nat × Nat)} {r : Nat × Nat}, at2 E r = none ↔ ∀ p ∈ E, p.1 ≠ r
 | [], r => by simp [at2_nil]
 | p :: E, r => by
  rw [at2_cons]
  by_cases h : p.1 = r
  ·rw [if_pos h]; simp [h]
  ·rw [if_neg h, at2_none]; simp [h]
theorem at2_some : ∀ {E : List ((Nat × Nat) × Nat × Nat)} {r : Nat × Nat} {v : Nat}, at2 E r = some v → ∃ E1 E2 n, E = E1 ++ (r, v, n) :: E2 ∧ ∀ p ∈ E1, p.1 ≠ r
 | [], r, v, h => by cases h
 | p :: E, r, v, h => by
  rw [at2_cons] at h
  by_cases e : p.1 = r
  ·rw [if_pos e] at h
   obtain ⟨p1, p2, p3⟩ := p
   obtain rfl := Option.some.inj h
   exact ⟨[], E, p3, by simp at e; simp [e], fun _ h => by cases h⟩
  ·rw [if_neg e] at h
   obtain ⟨E1, E2, n, rfl, h1⟩ := at2_some h
   exact ⟨p :: E1, E2, n, rfl, fun q hq => by
    rcases List.mem_cons.1 hq with rfl | hq
    ·exact e
    ·exact h1 q hq⟩
theorem at2_app : ∀ (E F : List ((Nat × Nat) × Nat × Nat)) (r : Nat × Nat), at2 (E ++ F) r = (at2 E r).or (at2 F r)
 | [], F, r => by simp [at2_nil]
 | p :: E, F, r => by
  rw [List.cons_append, at2_cons, at2_cons, at2_app E F r]
  split <;> simp
theorem eqRn (d : Nat) (a0 a1 b0 b1 : Int) (w : World) : (Op.equalIn (d + 2) 85 (.agg #[.int .i64 a0, .int .i64 a1]) (.agg #[.int .i64 b0, .int .i64 b1])).run Try.prog w = .ok (decide (a0 = b0) && decide (a1 = b1)) w := by
 have u3 := Try.underlying3
 have a3 := Try.isAgg3
 have z3 := Try.sizeOf3
 have hS : Try.prog.underlying 85 = some (.struct (Try.prog.fieldsOf 85)) := by kernel_rfl
 have hp : Try.prog.stoodInHeld 85 = false := by kernel_rfl
 rw [run_equalIn_agg w (d + 1) 85 _ _ hS hp]
 simp only [Program.fieldsOf, Try.underlying85]
 go_simp
 by_cases h1 : a0 = b0 <;> by_cases h2 : a1 = b1 <;> simp [h1, h2]
theorem eq2 (r s : Nat × Nat) (w : World) : (Op.equal 85 (keyV r) (keyV s)).run Try.prog w = .ok (decide (r = s)) w := by
 obtain ⟨a, b⟩ := r
 obtain ⟨c, d⟩ := s
 have e : (decide ((a, b) = (c, d)) : Bool) = (decide ((a : Int) = (c : Int)) && decide ((b : Int) = (d : Int))) := by
  by_cases h1 : a = c <;> by_cases h2 : b = d <;> simp [h1, h2] <;> omega
 rw [e]
 exact eqRn 9998 a b c d w
theorem check2 (e : Bool) (r : Nat × Nat) (w : World) : (Instr.checkKey e 10000 85 (keyV r)).run Try.prog w = .ok () w := by
 have u3 := Try.underlying3
 have a3 := Try.isAgg3
 have z3 := Try.sizeOf3
 have hin : ∀ (x : Int) (w : World), (Instr.checkKey e 9999 3 (.int .i64 x)).run Try.prog w = .ok () w := fun x w => by
  rw [show (9999 : Nat) = 9998 + 1 from rfl, Instr.checkKey]
  simp [run_underlying u3, Result.andThen]
 unfold keyV
 rw [show (10000 : Nat) = 9999 + 1 from rfl, Instr.checkKey]
 generalize Instr.checkKey e 9999 = ck at *
 simp only [Sem.run_bind, run_underlying Try.underlying85, Result.andThen_ok]
 simp [part, Sem.run_bind, a3, z3, hin]
theorem find2_no : ∀ (E : List ((Nat × Nat) × Nat × Nat)) (r : Nat × Nat) (i : Nat) (w : World), at2 E r = none → (Instr.findAsking 85 (keyV r) (E.map ent2) i).run Try.prog w = .ok none w
 | [], r, i, w, _ => rfl
 | p :: E, r, i, w, h => by
  rw [at2_cons] at h
  by_cases e : p.1 = r
  ·rw [if_pos e] at h; cases h
  ·rw [if_neg e] at h
   have h1 : (decide (r = p.1)) = false := decide_eq_false fun x => e x.symm
   rw [List.map_cons, Instr.findAsking, Sem.run_bind, show (ent2 p).key = keyV p.1 from rfl, eq2, h1]
   simp only [Result.andThen_ok]
   exact find2_no E r (i + 1) w h
theorem find2_at : ∀ (E1 : List ((Nat × Nat) × Nat × Nat)) (r : Nat × Nat) (v n : Nat) (E2 : List ((Nat × Nat) × Nat × Nat)) (i : Nat) (w : World), (∀ p ∈ E1, p.1 ≠ r) →
  (Instr.findAsking 85 (keyV r) ((E1 ++ (r, v, n) :: E2).map ent2) i).run Try.prog w = .ok (some (i + E1.length, .int .i64 (v : Int))) w
 | [], r, v, n, E2, i, w, _ => by
  rw [List.nil_append, List.map_cons, Instr.findAsking, Sem.run_bind, show (ent2 (r, v, n)).key = keyV r from rfl, eq2, decide_eq_true rfl]
  rfl
 | p :: E1, r, v, n, E2, i, w, h => by
  have h1 : (decide (r = p.1)) = false := decide_eq_false fun x => h p (List.mem_cons_self ..) x.symm
  rw [List.cons_append, List.map_cons, Instr.findAsking, Sem.run_bind, show (ent2 p).key = keyV p.1 from rfl, eq2, h1]
  simp only [Result.andThen_ok]
  have := find2_at E1 r v n E2 (i + 1) w (fun q hq => h q (List.mem_cons_of_mem _ hq))
  rw [show i + 1 + E1.length = i + (p :: E1).length by simp only [List.length_cons]; omega] at this
  exact this
theorem now2 : ∀ (kind : TypeDesc) (k : Value) (e : MapEntry) (es : List MapEntry) (i : Nat), Instr.sameNow kind k e.key = none → Instr.findNow kind k (e :: es) i = none := fun kind k e es i h => by
 rw [Instr.findNow, h]
theorem findK_no {E : List ((Nat × Nat) × Nat × Nat)} {r : Nat × Nat} (h : at2 E r = none) (w : World) : (Instr.findKey 85 (keyV r) (map2 E).toList).run Try.prog w = .ok none w := by
 unfold Instr.findKey
 rw [Sem.run_bind, run_underlying Try.underlying85]
 cases E with
 | nil => rfl
 | cons p E =>
  simp only [Result.andThen_ok, show (map2 (p :: E)).toList = ent2 p :: E.map ent2 from rfl]
  rw [now2 _ _ _ _ _ rfl]
  exact find2_no (p :: E) r 0 w h
theorem findK_at {E1 E2 : List ((Nat × Nat) × Nat × Nat)} {r : Nat × Nat} {v n : Nat} (h : ∀ p ∈ E1, p.1 ≠ r) (w : World) : (Instr.findKey 85 (keyV r) (map2 (E1 ++ (r, v, n) :: E2)).toList).run Try.prog w = .ok (some (E1.length, .int .i64 (v : Int))) w := by
 unfold Instr.findKey
 rw [Sem.run_bind, run_underlying Try.underlying85]
 obtain ⟨p, F, hF⟩ : ∃ p F, E1 ++ (r, v, n) :: E2 = p :: F := by
  cases E1 with
  | nil => exact ⟨_, _, rfl⟩
  | cons p F => exact ⟨p, _, rfl⟩
 have h2 := find2_at E1 r v n E2 0 w h
 rw [hF] at h2 ⊢
 simp only [Result.andThen_ok, show (map2 (p :: F)).toList = ent2 p :: F.map ent2 from rfl]
 rw [now2 _ _ _ _ _ rfl]
 rw [Nat.zero_add] at h2
 exact h2
/-- block b holds a map that has the values f -/
def MapR (w : World) (b : Nat) (f : Nat × Nat → Option Nat) : Prop := ∃ E c, w.heap[b]? = some (.map (map2 E) c) ∧ (∀ r, at2 E r = f r) ∧ (E.map (·.1)).Nodup
/-- one key gets another value -/
def updM (f : Nat × Nat → Option Nat) (r : Nat × Nat) (o : Option Nat) : Nat × Nat → Option Nat := fun s => if s = r then o else f s
theorem MapR.made (w : World) : MapR (w.alloc (.map #[] 0)) w.heap.size fun _ => none := ⟨[], 0, heap_alloc_new _ _, fun r => rfl, List.nodup_nil⟩
theorem MapR.lt {w : World} {b : Nat} {f : Nat × Nat → Option Nat} (h : MapR w b f) : b < w.heap.size := by
 obtain ⟨E, c, hb, _⟩ := h
 exact (Array.getElem?_eq_some_iff.1 hb).1
theorem MapR.kept {w w' : World} {b : Nat} {f : Nat × Nat → Option Nat} (h : MapR w b f) (hb : w'.heap[b]? = w.heap[b]?) : MapR w' b f := by
 obtain ⟨E, c, h1, h2⟩ := h
 exact ⟨E, c, hb.trans h1, h2⟩
theorem MapR.below {w w' : World} {b : Nat} {f : Nat × Nat → Option Nat} (h : MapR w b f) (hb : Below w.heap.size w w') : MapR w' b f := h.kept (hb.block b h.lt)
theorem MapR.grown {w w' : World} {b : Nat} {f : Nat × Nat → Option Nat} {row : Option Nat} (h : MapR w b f) (hg : w.grownBy w' row) (hne : some b ≠ row) : MapR w' b f := h.kept (hg.block b h.lt hne)
theorem MapR.cast {w : World} {b : Nat} {f g : Nat × Nat → Option Nat} (h : MapR w b f) (e : ∀ r, f r = g r) : MapR w b g := by
 obtain ⟨E, c, h1, h2, h3⟩ := h
 exact ⟨E, c, h1, fun r => (h2 r).trans (e r), h3⟩
/-- what a lookup gives -/
def lookV (o : Option Nat) (t : Bool) : Value := if t then .tuple #[.int .i64 ((o.getD 0 : Nat) : Int), .bool o.isSome] else .int .i64 ((o.getD 0 : Nat) : Int)
theorem MapR.look {w : World} {b : Nat} {f : Nat × Nat → Option Nat} (h : MapR w b f) (r : Nat × Nat) (t : Bool) : (Instr.lookup 83 (.map (some b)) (keyV r) t).run Try.prog w = .ok (lookV (f r) t) w := by
 obtain ⟨E, c, h1, h2, h3⟩ := h
 have ht := Try.underlying83
 rw [← h2]
 cases hr : at2 E r with
 | none =>
  have hf := findK_no hr
  cases t <;> simp [Instr.lookup, run_underlying ht, MapKept.run_getObj_map h1, check2, hf, Result.andThen, lookV, Try.zeroValue3]
 | some v =>
  obtain ⟨E1, E2, n, rfl, hn⟩ := at2_some hr
  have hf := fun w => findK_at (E2 := E2) (v := v) (n := n) hn w
  cases t <;> simp [Instr.lookup, run_underlying ht, MapKept.run_getObj_map h1, check2, hf, Result.andThen, lookV]
theorem grown_set {w : World} {b : Nat} (o : Obj) (hb : ∃ x, w.heap[b]? = some x) : w.grownBy (ChangeMaps.setBlock w b o) (some b) ∧ (ChangeMaps.setBlock w b o).heap.size = w.heap.size ∧ (ChangeMaps.setBlock w b o).heap[b]? = some o := by
 obtain ⟨x, hx⟩ := hb
 have hlt : b < w.heap.size := (Array.getElem?_eq_some_iff.1 hx).1
 refine ⟨⟨rfl, rfl, rfl, by simp [ChangeMaps.setBlock], fun i hi hne => ?_⟩, by simp [ChangeMaps.setBlock], ?_⟩
 ·have : b ≠ i := fun e => hne (by rw [e])
  simp [ChangeMaps.setBlock, Array.getElem?_setIfInBounds, this]
 ·simp [ChangeMaps.setBlock, Array.getElem?_setIfInBounds, hlt]
theorem MapR.put {w : World} {b : Nat} {f : Nat × Nat → Option Nat} (h : MapR w b f) {r : Nat × Nat} (hr : f r = none) (v : Nat) :
  ∃ w', (Instr.mapUpdate 83 (.map (some b)) (keyV r) (.int .i64 (v : Int))).run Try.prog w = .ok () w' ∧ MapR w' b (updM f r (some v)) ∧ w.grownBy w' (some b) ∧ w'.heap.size = w.heap.size := by
 obtain ⟨E, c, h1, h2, h3⟩ := h
 have ht := Try.underlying83
 have h0 : at2 E r = none := (h2 r).trans hr
 have hf := findK_no h0
 have e : (map2 E).push { key := keyV r, val := .int .i64 (v : Int), born := c } = map2 (E ++ [(r, v, c)]) := by simp [map2, ent2]
 obtain ⟨g1, g2, g3⟩ := grown_set (.map (map2 (E ++ [(r, v, c)])) (c + 1)) ⟨_, h1⟩
 refine ⟨_, ?_, ⟨E ++ [(r, v, c)], c + 1, g3, fun s => ?_, ?_⟩, g1, g2⟩
 ·simp [Instr.mapUpdate, run_underlying ht, MapKept.run_getObj_map h1, check2, hf, MapKept.run_setObj_map _ h1, Result.andThen, ChangeMaps.setBlock, e]
 ·rw [at2_app, at2_cons, at2_nil, h2]
  unfold updM
  by_cases es : s = r
  ·subst es; rw [hr, if_pos rfl]; rfl
  ·rw [if_neg (fun x => es x.symm), if_neg es, Option.or_none]
 ·rw [List.map_append, List.nodup_append]
  refine ⟨h3, by simp, fun a ha d hd => ?_⟩
  obtain ⟨p, hp, rfl⟩ := List.mem_map.1 ha
  simp at hd
  subst hd
  exact at2_none.1 h0 p hp
theorem era2 {α : Type} (x : α) (M : List α) : ∀ (L : List α), (L ++ x :: M).eraseIdx L.length = L ++ M
 | [] => rfl
 | a :: L => by simp [era2 x M L]
theorem MapR.del {w : World} {b : Nat} {f : Nat × Nat → Option Nat} (h : MapR w b f) {r : Nat × Nat} {v : Nat} (hr : f r = some v) (ty : TypeId) :
  ∃ w', (Builtin.delete_ #[83, 85] ty #[.map (some b), keyV r]).run Try.prog w = .ok (.tuple #[]) w' ∧ MapR w' b (updM f r none) ∧ w.grownBy w' (some b) ∧ w'.heap.size = w.heap.size := by
 obtain ⟨E, c, h1, h2, h3⟩ := h
 have ht := Try.underlying83
 obtain ⟨E1, E2, n, rfl, hn⟩ := at2_some ((h2 r).trans hr)
 have hf := fun w => findK_at (E2 := E2) (v := v) (n := n) hn w
 have e : (map2 (E1 ++ (r, v, n) :: E2)).eraseIdxIfInBounds E1.length = map2 (E1 ++ E2) := by
  apply Array.toList_inj.1
  rw [Array.toList_eraseIdxIfInBounds]
  show ((E1 ++ (r, v, n) :: E2).map ent2).eraseIdx E1.length = (E1 ++ E2).map ent2
  rw [List.map_append, List.map_append, List.map_cons, show E1.length = (E1.map ent2).length by simp, era2]
 obtain ⟨g1, g2, g3⟩ := grown_set (.map (map2 (E1 ++ E2)) c) ⟨_, h1⟩
 have hnd := h3
 rw [List.map_append, List.map_cons, List.nodup_append, List.nodup_cons] at hnd
 refine ⟨_, ?_, ⟨E1 ++ E2, c, g3, fun s => ?_, ?_⟩, g1, g2⟩
 ·simp [Builtin.delete_, run_underlying ht, MapKept.run_getObj_map h1, check2, hf, MapKept.run_setObj_map _ h1, Result.andThen, ChangeMaps.setBlock, e]
 ·have hs := h2 s
  rw [at2_app, at2_cons] at hs
  rw [at2_app]
  unfold updM
  by_cases es : s = r
  ·subst es
   rw [if_pos rfl, at2_none.2 hn, Option.none_or, at2_none]
   intro p hp e
   exact hnd.2.1.1 (List.mem_map.2 ⟨p, hp, e⟩)
  ·rw [if_neg es, ← hs, if_neg (fun x => es x.symm)]
 ·rw [List.map_append, List.nodup_append]
  exact ⟨hnd.1, hnd.2.1.2, fun a ha d hd => hnd.2.2 a ha d (List.mem_cons_of_mem _ hd)⟩
/-- the update as a step of a walk -/
theorem wpList_put2 {w : World} {ops : Array Oper} {rest : List Oper} {o : Oper} {a : Act} {Q : Exit → Act → World → Prop} (hg : o.guard = none) (m x v : Operand) (hop : o.op = Op.mapUpdate 83 m x v)
  (b : Nat) (f : Nat × Nat → Option Nat) (r : Nat × Nat) (z : Nat) (hM : MapR w b f) (hr : f r = none) (hm : a.eval m = .map (some b)) (hx : a.eval x = keyV r) (hv : a.eval v = .int .i64 (z : Int))
  (hK : ∀ w', MapR w' b (updM f r (some z)) → w.grownBy w' (some b) → w'.heap.size = w.heap.size → wpList Try.prog ops Q rest (a.put o.dst undef) w') : wpList Try.prog ops Q (o :: rest) a w := by
 refine wpList_plain hg fun K' hK' => ?_
 obtain ⟨w', hrun, h1, h2, h3⟩ := hM.put hr z
 unfold Oper.wp
 simp [execOp, hop, hm, hx, hv, hrun, Result.andThen]
 exact hK' _ _ (hK _ h1 h2 h3)
end Go.Proofs.Ytjfgklhifhaaoaa
/- Tables: what the sweep keeps, in plain lists and in memory. Conditions: none. -/
namespace Go.Proofs.Ytjfgklhifhaaoaa
open Go.RowKit
/-! plain -/
def abvR (R : Nat → List (Nat × Nat)) (h : Nat) : Nat → List (Nat × Nat)
 | 0 => []
 | y + 1 => rowR R h y
def mapF (R : Nat → List (Nat × Nat)) (h y : Nat) (r : Nat × Nat) : Option Nat := if r ∈ abvR R h y then some (begR R (y - 1) r) else none
def g2F (A H : List (Nat × Nat)) (b : Nat × Nat → Nat) (j : Nat) (r : Nat × Nat) : Option Nat := if r ∈ A.take j ∧ r ∉ H then none else if r ∈ A then some (b r) else none
def g3F (A H : List (Nat × Nat)) (b : Nat × Nat → Nat) (y j : Nat) (r : Nat × Nat) : Option Nat := if r ∈ A ∧ r ∈ H then some (b r) else if r ∈ H.take j then some y else none
def outJ (A H : List (Nat × Nat)) (b : Nat × Nat → Nat) (v : Bool) (y j : Nat) : List Ru := ((A.take j).filter fun r => decide (r ∉ H)).map fun r => mkR v (b r) (y - b r) r
theorem rowR_srt {R : Nat → List (Nat × Nat)} (hR : ∀ y, (R y).Pairwise fun r s => r.1 < s.1) (h y : Nat) : (rowR R h y).Pairwise fun r s => r.1 < s.1 := by
 unfold rowR
 split
 ·exact hR y
 ·exact List.Pairwise.nil
theorem abvR_srt {R : Nat → List (Nat × Nat)} (hR : ∀ y, (R y).Pairwise fun r s => r.1 < s.1) (h : Nat) : ∀ y, (abvR R h y).Pairwise fun r s => r.1 < s.1
 | 0 => List.Pairwise.nil
 | y + 1 => rowR_srt hR h y
theorem not_take {l : List (Nat × Nat)} (hs : l.Pairwise fun r s => r.1 < s.1) {j : Nat} (hj : j < l.length) : l[j] ∉ l.take j := fun h => by
 obtain ⟨i, hi, e⟩ := List.getElem_of_mem h
 rw [List.getElem_take] at e
 have hij : i < j := by rw [List.length_take] at hi; omega
 have := List.pairwise_iff_getElem.1 hs i j (by omega) hj hij
 rw [e] at this
 omega
theorem mem_take_succ {l : List (Nat × Nat)} {j : Nat} (hj : j < l.length) {r : Nat × Nat} : r ∈ l.take (j + 1) ↔ r ∈ l.take j ∨ r = l[j] := by
 rw [List.take_succ_eq_append_getElem hj, List.mem_append, List.mem_singleton]
theorem g2_at {A H : List (Nat × Nat)} {b : Nat × Nat → Nat} (hs : A.Pairwise fun r s => r.1 < s.1) {j : Nat} (hj : j < A.length) : g2F A H b j A[j] = some (b A[j]) := by
 unfold g2F
 rw [if_neg (fun h => not_take hs hj h.1), if_pos (List.getElem_mem hj)]
theorem g2_keep {A H : List (Nat × Nat)} {b : Nat × Nat → Nat} {j : Nat} (hj : j < A.length) (h : A[j] ∈ H) (r : Nat × Nat) : g2F A H b j r = g2F A H b (j + 1) r := by
 unfold g2F
 simp only [mem_take_succ hj]
 by_cases e : r = A[j]
 ·subst e; simp [h]
 ·simp [e]
theorem g2_del {A H : List (Nat × Nat)} {b : Nat × Nat → Nat} {j : Nat} (hj : j < A.length) (h : A[j] ∉ H) (r : Nat × Nat) : updM (g2F A H b j) A[j] none r = g2F A H b (j + 1) r := by
 unfold g2F updM
 simp only [mem_take_succ hj]
 by_cases e : r = A[j]
 ·subst e; simp [h]
 ·simp [e]
theorem g2_zero {A H : List (Nat × Nat)} {b : Nat × Nat → Nat} (r : Nat × Nat) : (if r ∈ A then some (b r) else none) = g2F A H b 0 r := by unfold g2F; simp
theorem g23 {A H : List (Nat × Nat)} {b : Nat × Nat → Nat} {y : Nat} (r : Nat × Nat) : g2F A H b A.length r = g3F A H b y 0 r := by
 unfold g2F g3F
 rw [List.take_length]
 by_cases h1 : r ∈ A <;> by_cases h2 : r ∈ H <;> simp [h1, h2]
theorem g3_old {A H : List (Nat × Nat)} {b : Nat × Nat → Nat} {y j : Nat} (hj : j < H.length) (h : H[j] ∈ A) : g3F A H b y j H[j] = some (b H[j]) := by
 unfold g3F
 rw [if_pos ⟨h, List.getElem_mem hj⟩]
theorem g3_new {A H : List (Nat × Nat)} {b : Nat × Nat → Nat} {y j : Nat} (hs : H.Pairwise fun r s => r.1 < s.1) (hj : j < H.length) (h : H[j] ∉ A) : g3F A H b y j H[j] = none := by
 unfold g3F
 rw [if_neg (fun x => h x.1), if_neg (not_take hs hj)]
theorem g3_keep {A H : List (Nat × Nat)} {b : Nat × Nat → Nat} {y j : Nat} (hj : j < H.length) (h : H[j] ∈ A) (r : Nat × Nat) : g3F A H b y j r = g3F A H b y (j + 1) r := by
 unfold g3F
 simp only [mem_take_succ hj]
 by_cases e : r = H[j]
 ·subst e; simp [h]
 ·simp [e]
theorem g3_put {A H : List (Nat × Nat)} {b : Nat × Nat → Nat} {y j : Nat} (hj : j < H.length) (h : H[j] ∉ A) (r : Nat × Nat) : updM (g3F A H b y j) H[j] (some y) r = g3F A H b y (j + 1) r := by
 unfold g3F updM
 simp only [mem_take_succ hj]
 by_cases e : r = H[j]
 ·subst e; simp [h]
 ·simp [e]
theorem rowR_in {R : Nat → List (Nat × Nat)} {h y : Nat} (hy : y < h) : rowR R h y = R y := if_pos hy
theorem abvR_succ {R : Nat → List (Nat × Nat)} {h y : Nat} : abvR R h (y + 1) = rowR R h y := rfl
theorem begR_succ {R : Nat → List (Nat × Nat)} {y : Nat} {r : Nat × Nat} : begR R (y + 1) r = if r ∈ R y then begR R y r else y + 1 := rfl
theorem g3_end {R : Nat → List (Nat × Nat)} {h y : Nat} (hy : y ≤ h) (r : Nat × Nat) : g3F (abvR R h y) (rowR R h y) (begR R (y - 1)) y (rowR R h y).length r = mapF R h (y + 1) r := by
 unfold g3F mapF
 rw [List.take_length, abvR_succ, Nat.add_sub_cancel]
 match y, hy with
 | 0, _ =>
  have e : abvR R h 0 = [] := rfl
  rw [e]
  by_cases h1 : r ∈ rowR R h 0
  ·simp [h1, begR]
  ·simp [h1]
 | y + 1, hy =>
  rw [abvR_succ, rowR_in (show y < h by omega), begR_succ, Nat.add_sub_cancel]
  by_cases h1 : r ∈ rowR R h (y + 1) <;> by_cases h2 : r ∈ R y <;> simp [h1, h2]
theorem outJ_skip {A H : List (Nat × Nat)} {b : Nat × Nat → Nat} {v : Bool} {y j : Nat} (hj : j < A.length) (h : A[j] ∈ H) : outJ A H b v y (j + 1) = outJ A H b v y j := by
 unfold outJ
 rw [List.take_succ_eq_append_getElem hj, List.filter_append]
 simp [h]
theorem outJ_take {A H : List (Nat × Nat)} {b : Nat × Nat → Nat} {v : Bool} {y j : Nat} (hj : j < A.length) (h : A[j] ∉ H) : outJ A H b v y (j + 1) = outJ A H b v y j ++ [mkR v (b A[j]) (y - b A[j]) A[j]] := by
 unfold outJ
 rw [List.take_succ_eq_append_getElem hj, List.filter_append]
 simp [h]
theorem outJ_len {A H : List (Nat × Nat)} {b : Nat × Nat → Nat} {v : Bool} {y j : Nat} : (outJ A H b v y j).length ≤ A.length := by
 unfold outJ
 rw [List.length_map]
 exact Nat.le_trans (List.length_filter_le _ _) (by rw [List.length_take]; omega)
theorem outJ_all {R : Nat → List (Nat × Nat)} {h y : Nat} {v : Bool} (hy : y ≤ h) : outJ (abvR R h y) (rowR R h y) (begR R (y - 1)) v y (abvR R h y).length = outR R h v y := by
 unfold outJ
 rw [List.take_length]
 match y, hy with
 | 0, _ => rfl
 | y + 1, hy =>
  rw [abvR_succ, rowR_in (show y < h by omega)]
  rfl
/-! in memory -/
structure Sw (w wr : World) (vl va vh : Value) (L : List Ru) (A H : List (Nat × Nat)) (f : Nat × Nat → Option Nat) : Prop where
 l : RuK.Own wr (w.heap.size + 1) vl L
 a : RnK.Own wr (w.heap.size + 1) va A
 h : RnK.Own wr (w.heap.size + 1) vh H
 al : va.ownBlock = none ∨ va.ownBlock ≠ vl.ownBlock
 hl : vh.ownBlock = none ∨ vh.ownBlock ≠ vl.ownBlock
 m : MapR wr w.heap.size f
 b : Below w.heap.size w wr
theorem Sw.below {w wr w' : World} {vl va vh : Value} {L : List Ru} {A H : List (Nat × Nat)} {f : Nat × Nat → Option Nat} (s : Sw w wr vl va vh L A H f) (hb : Below wr.heap.size wr w') : Sw w w' vl va vh L A H f :=
 ⟨s.l.below hb, s.a.below hb, s.h.below hb, s.al, s.hl, s.m.below hb, bel_step s.b hb⟩
theorem own_ne {α : Type} {X : Knd α} {w wr : World} {v : Value} {l : List α} (h : X.Own wr (w.heap.size + 1) v l) : some w.heap.size ≠ v.ownBlock := fun e => by
 have := (h.lt e.symm).1
 omega
theorem own_ne2 {α : Type} {X : Knd α} {w wr : World} {v : Value} {l : List α} (h : X.Own wr (w.heap.size + 1) v l) : v.ownBlock = none ∨ v.ownBlock ≠ some w.heap.size := .inr fun e => own_ne h e.symm
theorem Sw.app {w wr w' : World} {vl va vh vl' : Value} {L L' : List Ru} {A H : List (Nat × Nat)} {f : Nat × Nat → Option Nat} (s : Sw w wr vl va vh L A H f) (hO : RuK.Own w' (w.heap.size + 1) vl' L') (hg : wr.grownBy w' vl.ownBlock) (hat : vl'.ownBlock = vl.ownBlock ∨ vl'.ownBlock = some wr.heap.size) : Sw w w' vl' va vh L' A H f := by
 have far : ∀ {v : Value} {l : List (Nat × Nat)}, RnK.Own wr (w.heap.size + 1) v l → (v.ownBlock = none ∨ v.ownBlock ≠ vl.ownBlock) → (v.ownBlock = none ∨ v.ownBlock ≠ vl'.ownBlock) := fun {v l} h1 h2 => by
  rcases hat with e | e
  ·rw [e]; exact h2
  ·rw [e]
   refine .inr fun e2 => ?_
   have := (h1.lt e2).2
   omega
 exact ⟨hO, s.a.grown hg s.al, s.h.grown hg s.hl, far s.a s.al, far s.h s.hl, s.m.grown hg (own_ne s.l), Knd.grown s.b s.l hg s.b.size (Nat.le_succ _)⟩
theorem Sw.map {w wr w' : World} {vl va vh : Value} {L : List Ru} {A H : List (Nat × Nat)} {f f' : Nat × Nat → Option Nat} (s : Sw w wr vl va vh L A H f) (hM : MapR w' w.heap.size f') (hg : wr.grownBy w' (some w.heap.size)) : Sw w w' vl va vh L A H f' :=
 ⟨s.l.grown hg (own_ne2 s.l), s.a.grown hg (own_ne2 s.a), s.h.grown hg (own_ne2 s.h), s.al, s.hl, hM, Below.grown s.b hg s.b.size (fun k e => by cases e; exact Nat.le_refl _)⟩
theorem Sw.cast {w wr : World} {vl va vh : Value} {L L' : List Ru} {A H : List (Nat × Nat)} {f f' : Nat × Nat → Option Nat} (s : Sw w wr vl va vh L A H f) (e : L = L') (e' : ∀ r, f r = f' r) : Sw w wr vl va vh L' A H f' :=
 ⟨e ▸ s.l, s.a, s.h, s.al, s.hl, s.m.cast e', s.b⟩
end Go.Proofs.Ytjfgklhifhaaoaa
