/- A map from int to int in closed form: the keys are the stamps. Conditions: none. -/
import Derived.Maps.RangeWalk
import Derived.RowKit
import Derived.Test.YtjdgjhaggpahkaaZRd0
set_option linter.unusedVariables false
set_option linter.unusedSimpArgs false
namespace Go.Proofs.Ytjdgjhaggpahkaa
open Go.RowKit
def entZ (p : Nat × Int) : MapEntry := { key := .int .i64 p.1, val := .int .i64 p.2, born := p.1 }
def mapZ (E : List (Nat × Int)) : Array MapEntry := (E.map entZ).toArray
theorem findNow_no (i : Nat) : ∀ (E : List (Nat × Int)) (k : Nat), (∀ p ∈ E, p.1 ≠ i) → Instr.findNow (.int .i64) (.int .i64 i) (E.map entZ) k = some none
 | [], _, _ => rfl
 | p :: E, k, h => by
  have h1 : ((i : Int) == (p.1 : Int)) = false := beq_eq_false_iff_ne.2 fun e => h p (List.mem_cons_self ..) (by omega)
  have := findNow_no i E (k + 1) (fun q hq => h q (List.mem_cons_of_mem _ hq))
  rw [List.map_cons]
  simp only [Instr.findNow, Instr.sameNow, entZ, if_true, h1]
  exact this
theorem findNow_at (i : Nat) (v : Int) (E2 : List (Nat × Int)) : ∀ (E : List (Nat × Int)) (k : Nat), (∀ p ∈ E, p.1 ≠ i) → Instr.findNow (.int .i64) (.int .i64 i) ((E ++ (i, v) :: E2).map entZ) k = some (some (k + E.length, .int .i64 v))
 | [], k, _ => by simp [Instr.findNow, Instr.sameNow, entZ]
 | p :: E, k, h => by
  have h1 : ((i : Int) == (p.1 : Int)) = false := beq_eq_false_iff_ne.2 fun e => h p (List.mem_cons_self ..) (by omega)
  have := findNow_at i v E2 E (k + 1) (fun q hq => h q (List.mem_cons_of_mem _ hq))
  rw [List.cons_append, List.map_cons]
  simp only [Instr.findNow, Instr.sameNow, entZ, if_true, h1]
  rw [show k + (p :: E).length = k + 1 + E.length by simp only [List.length_cons]; omega]
  exact this
theorem mod_at {α : Type} (f : α → α) (x : α) (M : List α) : ∀ (L : List α), (L ++ x :: M).modify L.length f = L ++ f x :: M
 | [] => rfl
 | a :: L => by simp [mod_at f x M L]
theorem era_at {α : Type} (x : α) (M : List α) : ∀ (L : List α), (L ++ x :: M).eraseIdx L.length = L ++ M
 | [] => rfl
 | a :: L => by simp [era_at x M L]
theorem run_check {P : Program} {K : TypeId} (hk : P.underlying K = some (.int .i64)) (e : Bool) (a : Int) (w : World) : (Instr.checkKey e 10000 K (.int .i64 a)).run P w = .ok () w := by
 rw [show (10000 : Nat) = 9999 + 1 from rfl, Instr.checkKey]
 simp [run_underlying hk, Result.andThen]
theorem run_find_no {P : Program} {K : TypeId} (hk : P.underlying K = some (.int .i64)) {E : List (Nat × Int)} {i : Nat} (hn : ∀ p ∈ E, p.1 ≠ i) (w : World) : (Instr.findKey K (.int .i64 (i : Int)) (mapZ E).toList).run P w = .ok none w := by
 have hf := findNow_no i E 0 hn
 simp [Instr.findKey, run_underlying hk, Result.andThen, mapZ, hf]
theorem run_find_at {P : Program} {K : TypeId} (hk : P.underlying K = some (.int .i64)) {E E2 : List (Nat × Int)} {i : Nat} {v : Int} (hn : ∀ p ∈ E, p.1 ≠ i) (w : World) : (Instr.findKey K (.int .i64 (i : Int)) (mapZ (E ++ (i, v) :: E2)).toList).run P w = .ok (some (E.length, .int .i64 v)) w := by
 have hf := findNow_at i v E2 E 0 hn
 rw [Nat.zero_add] at hf
 unfold Instr.findKey
 rw [Sem.run_bind, run_underlying hk]
 show (match Instr.findNow (.int .i64) (.int .i64 (i : Int)) (mapZ (E ++ (i, v) :: E2)).toList 0 with | some r => (pure r : Sem _) | none => Instr.findAsking K (.int .i64 (i : Int)) (mapZ (E ++ (i, v) :: E2)).toList).run P w = _
 rw [show (mapZ (E ++ (i, v) :: E2)).toList = (E ++ (i, v) :: E2).map entZ from rfl, hf]
 rfl
theorem run_upd_new {P : Program} {w : World} {T K V : TypeId} {b : Nat} {E : List (Nat × Int)} {i : Nat} {v : Int} (ht : P.underlying T = some (.map K V)) (hk : P.underlying K = some (.int .i64)) (hb : w.heap[b]? = some (.map (mapZ E) i))
  (hn : ∀ p ∈ E, p.1 ≠ i) : (Instr.mapUpdate T (.map (some b)) (.int .i64 (i : Int)) (.int .i64 v)).run P w = .ok () (ChangeMaps.setBlock w b (.map (mapZ (E ++ [(i, v)])) (i + 1))) := by
 have e : (mapZ E).push { key := .int .i64 (i : Int), val := .int .i64 v, born := i } = mapZ (E ++ [(i, v)]) := by simp [mapZ, entZ]
 simp [Instr.mapUpdate, run_underlying ht, MapKept.run_getObj_map hb, run_check hk, run_find_no hk hn, MapKept.run_setObj_map _ hb, Result.andThen, ChangeMaps.setBlock, e]
theorem run_upd_at {P : Program} {w : World} {T K V : TypeId} {b c : Nat} {E E2 : List (Nat × Int)} {i : Nat} {u v : Int} (ht : P.underlying T = some (.map K V)) (hk : P.underlying K = some (.int .i64)) (hb : w.heap[b]? = some (.map (mapZ (E ++ (i, u) :: E2)) c))
  (hn : ∀ p ∈ E, p.1 ≠ i) : (Instr.mapUpdate T (.map (some b)) (.int .i64 (i : Int)) (.int .i64 v)).run P w = .ok () (ChangeMaps.setBlock w b (.map (mapZ (E ++ (i, v) :: E2)) c)) := by
 have e : (mapZ (E ++ (i, u) :: E2)).modify E.length (fun e => { e with key := .int .i64 (i : Int), val := .int .i64 v }) = mapZ (E ++ (i, v) :: E2) := by
  apply Array.toList_inj.1
  rw [Array.toList_modify]
  show ((E ++ (i, u) :: E2).map entZ).modify E.length _ = (E ++ (i, v) :: E2).map entZ
  rw [List.map_append, List.map_append, List.map_cons, List.map_cons, show E.length = (E.map entZ).length by simp, mod_at]
  rfl
 have e2 : ((mapZ (E ++ (i, u) :: E2))[E.length]?).map (·.key) = some (.int .i64 (i : Int)) := by
  simp [mapZ, entZ]
 have e3 : Instr.sameBits 10000 (.int .i64 (i : Int)) (.int .i64 (i : Int)) = true := by simp [Instr.sameBits]
 simp [Instr.mapUpdate, run_underlying ht, MapKept.run_getObj_map hb, run_check hk, run_find_at hk hn, e2, Instr.keyThatStays, e3, MapKept.run_setObj_map _ hb, Result.andThen, ChangeMaps.setBlock, e]
theorem run_del_at {P : Program} {w : World} {T K V : TypeId} {b c : Nat} {E E2 : List (Nat × Int)} {i : Nat} {u : Int} (ts : Array TypeId) (t : TypeId) (hts : ts[0]? = some T) (ht : P.underlying T = some (.map K V)) (hk : P.underlying K = some (.int .i64)) (hb : w.heap[b]? = some (.map (mapZ (E ++ (i, u) :: E2)) c))
  (hn : ∀ p ∈ E, p.1 ≠ i) : (Builtin.delete_ ts t #[.map (some b), .int .i64 (i : Int)]).run P w = .ok (.tuple #[]) (ChangeMaps.setBlock w b (.map (mapZ (E ++ E2)) c)) := by
 have e : (mapZ (E ++ (i, u) :: E2)).eraseIdxIfInBounds E.length = mapZ (E ++ E2) := by
  apply Array.toList_inj.1
  show ((mapZ (E ++ (i, u) :: E2)).eraseIdxIfInBounds E.length).toList = (E ++ E2).map entZ
  rw [Array.toList_eraseIdxIfInBounds]
  show ((E ++ (i, u) :: E2).map entZ).eraseIdx E.length = (E ++ E2).map entZ
  rw [List.map_append, List.map_append, List.map_cons, show E.length = (E.map entZ).length by simp, era_at]
 simp [Builtin.delete_, hts, run_underlying ht, MapKept.run_getObj_map hb, run_check hk, run_find_at hk hn, MapKept.run_setObj_map _ hb, Result.andThen, ChangeMaps.setBlock, e]
end Go.Proofs.Ytjdgjhaggpahkaa
/- A map from int to int in closed form: the operations on it as steps of a walk. Conditions: none. -/
namespace Go.Proofs.Ytjdgjhaggpahkaa
open Go.RowKit
variable {P : Program}
theorem grown_set {w : World} {b : Nat} (o : Obj) (hb : ∃ x, w.heap[b]? = some x) : w.grownBy (ChangeMaps.setBlock w b o) (some b) ∧ (ChangeMaps.setBlock w b o).heap.size = w.heap.size ∧ (ChangeMaps.setBlock w b o).heap[b]? = some o := by
 obtain ⟨x, hx⟩ := hb
 have hlt : b < w.heap.size := (Array.getElem?_eq_some_iff.1 hx).1
 refine ⟨⟨rfl, rfl, rfl, by simp [ChangeMaps.setBlock], fun i hi hne => ?_⟩, by simp [ChangeMaps.setBlock], ?_⟩
 ·have : b ≠ i := fun e => hne (by rw [e])
  simp [ChangeMaps.setBlock, Array.getElem?_setIfInBounds, this]
 ·simp [ChangeMaps.setBlock, Array.getElem?_setIfInBounds, hlt]
theorem wpList_updNew {w : World} {ops : Array Oper} {rest : List Oper} {o : Oper} {a : Act} {Q : Exit → Act → World → Prop} (hg : o.guard = none) (m x v : Operand) (T : TypeId) (hop : o.op = Op.mapUpdate T m x v)
  {K V : TypeId} (ht : P.underlying T = some (.map K V)) (hk : P.underlying K = some (.int .i64)) (b : Nat) (E : List (Nat × Int)) (i : Nat) (z : Int) (hb : w.heap[b]? = some (.map (mapZ E) i)) (hn : ∀ p ∈ E, p.1 ≠ i)
  (hm : a.eval m = .map (some b)) (hx : a.eval x = .int .i64 (i : Int)) (hv : a.eval v = .int .i64 z)
  (hK : ∀ w', w'.heap[b]? = some (.map (mapZ (E ++ [(i, z)])) (i + 1)) → w.grownBy w' (some b) → w'.heap.size = w.heap.size → wpList P ops Q rest (a.put o.dst undef) w') : wpList P ops Q (o :: rest) a w := by
 refine wpList_plain hg fun K' hK' => ?_
 have hrun := run_upd_new (v := z) ht hk hb hn
 obtain ⟨h1, h2, h3⟩ := grown_set (.map (mapZ (E ++ [(i, z)])) (i + 1)) ⟨_, hb⟩
 unfold Oper.wp
 simp [execOp, hop, hm, hx, hv, hrun, Result.andThen]
 exact hK' _ _ (hK _ h3 h1 h2)
theorem wpList_updAt {w : World} {ops : Array Oper} {rest : List Oper} {o : Oper} {a : Act} {Q : Exit → Act → World → Prop} (hg : o.guard = none) (m x v : Operand) (T : TypeId) (hop : o.op = Op.mapUpdate T m x v)
  {K V : TypeId} (ht : P.underlying T = some (.map K V)) (hk : P.underlying K = some (.int .i64)) (b c : Nat) (E E2 : List (Nat × Int)) (i : Nat) (u z : Int) (hb : w.heap[b]? = some (.map (mapZ (E ++ (i, u) :: E2)) c)) (hn : ∀ p ∈ E, p.1 ≠ i)
  (hm : a.eval m = .map (some b)) (hx : a.eval x = .int .i64 (i : Int)) (hv : a.eval v = .int .i64 z)
  (hK : ∀ w', w'.heap[b]? = some (.map (mapZ (E ++ (i, z) :: E2)) c) → w.grownBy w' (some b) → w'.heap.size = w.heap.size → wpList P ops Q rest (a.put o.dst undef) w') : wpList P ops Q (o :: rest) a w := by
 refine wpList_plain hg fun K' hK' => ?_
 have hrun := run_upd_at (v := z) ht hk hb hn
 obtain ⟨h1, h2, h3⟩ := grown_set (.map (mapZ (E ++ (i, z) :: E2)) c) ⟨_, hb⟩
 unfold Oper.wp
 simp [execOp, hop, hm, hx, hv, hrun, Result.andThen]
 exact hK' _ _ (hK _ h3 h1 h2)
theorem del_ex {w : World} (T K' : TypeId) (ty : TypeId) {K V : TypeId} (ht : P.underlying T = some (.map K V)) (hk : P.underlying K = some (.int .i64)) (b c : Nat) (E E2 : List (Nat × Int)) (i : Nat) (u : Int) (hb : w.heap[b]? = some (.map (mapZ (E ++ (i, u) :: E2)) c)) (hn : ∀ p ∈ E, p.1 ≠ i) :
  ∃ w', (Builtin.delete_ #[T, K'] ty #[.map (some b), .int .i64 (i : Int)]).run P w = .ok (.tuple #[]) w' ∧ w'.heap[b]? = some (.map (mapZ (E ++ E2)) c) ∧ w.grownBy w' (some b) ∧ w'.heap.size = w.heap.size := by
 have hrun := run_del_at #[T, K'] ty rfl ht hk hb hn
 obtain ⟨h1, h2, h3⟩ := grown_set (.map (mapZ (E ++ E2)) c) ⟨_, hb⟩
 exact ⟨_, hrun, h3, h1, h2⟩
theorem wpList_rangeZ {w : World} {ops : Array Oper} {rest : List Oper} {o : Oper} {a : Act} {Q : Exit → Act → World → Prop} (hg : o.guard = none) (m : Operand) (T : TypeId) (hop : o.op = Op.range T m)
  {K V : TypeId} (ht : P.underlying T = some (.map K V)) (b c : Nat) (E : List (Nat × Int)) (hb : w.heap[b]? = some (.map (mapZ E) c)) (hm : a.eval m = .map (some b))
  (hK : wpList P ops Q rest (a.put o.dst (.pointer (some ⟨w.heap.size, 0, none⟩))) (w.alloc (.mapIter (some b) c #[] c))) : wpList P ops Q (o :: rest) a w := by
 refine wpList_plain hg fun K1 hK' => ?_
 have hrun := run_range_map (P := P) w T K V b (mapZ E) c ht hb
 unfold Oper.wp
 simp [execOp, hop, hm, hrun, Result.andThen]
 exact hK' _ _ hK
theorem born_mem {E : List (Nat × Int)} {e : MapEntry} (h : e ∈ (mapZ E).toList) : ∃ p ∈ E, e = entZ p := by
 obtain ⟨p, hp, e1⟩ := List.mem_map.1 (show e ∈ E.map entZ from h)
 exact ⟨p, hp, e1.symm⟩
theorem wpList_nextZ {w : World} {ops : Array Oper} {rest : List Oper} {o : Oper} {a : Act} {Q : Exit → Act → World → Prop} (hg : o.guard = none) (it : Operand) (hop : o.op = Op.next it false)
  (b r c : Nat) (seen : Array Nat) (E : List (Nat × Int)) (hr : w.heap[r]? = some (.mapIter (some b) c seen c)) (hb : w.heap[b]? = some (.map (mapZ E) c)) (hlt : ∀ p ∈ E, p.1 < c) (hnd : (E.map (·.1)).Nodup) (hne : r ≠ b)
  (hit : a.eval it = .pointer (some ⟨r, 0, none⟩))
  (hDone : (∀ p ∈ E, p.1 ∈ seen) → wpList P ops Q rest (a.put o.dst (.tuple #[.bool false])) w)
  (hMore : ∀ (i : Nat) (v : Int) (w' : World), (i, v) ∈ E → i ∉ seen → w'.heap[r]? = some (.mapIter (some b) c (seen.push i) c) → w.grownBy w' (some r) → w'.heap.size = w.heap.size →
   (Instr.entry (.pointer (some ⟨r, 0, none⟩))).run P w' = .ok (.tuple #[.int .i64 (i : Int), .int .i64 v]) w' → wpList P ops Q rest (a.put o.dst (.tuple #[.bool true, .int .i64 (i : Int), .int .i64 v])) w') : wpList P ops Q (o :: rest) a w := by
 refine wpList_plain hg fun K1 hK' => ?_
 have hold : ∀ x ∈ (mapZ E).toList, x.born < c := fun x hx => by
  obtain ⟨p, hp, rfl⟩ := born_mem hx
  exact hlt p hp
 unfold Oper.wp
 rcases run_next_at (P := P) w o.type r b c c seen (mapZ E) c hr hb hold (Nat.le_refl _) with ⟨h0, hrun⟩ | ⟨e, he, w1, hw1, hrun⟩
 ·simp [execOp, hop, hit, hrun, Result.andThen]
  refine hK' _ _ (hDone fun p hp => ?_)
  have h1 : leftOf (mapZ E) seen = #[] := Array.eq_empty_of_size_eq_zero h0
  unfold leftOf at h1
  rw [Array.filter_eq_empty_iff] at h1
  have h2 := h1 (entZ p) (show entZ p ∈ mapZ E by unfold mapZ; simp; exact ⟨p.1, p.2, hp, rfl⟩)
  simpa [entZ] using h2
 ·have he2 : e ∈ (mapZ E).toList ∧ e.born ∉ seen := by
   unfold leftOf at he
   simpa using he
  obtain ⟨p, hp, rfl⟩ := born_mem he2.1
  have hr1 : w1.heap[r]? = some (.mapIter (some b) c seen c) := by rcases hw1 with rfl | rfl <;> exact hr
  have hb1 : w1.heap[b]? = some (.map (mapZ E) c) := by rcases hw1 with rfl | rfl <;> exact hb
  obtain ⟨h1, h2, h3⟩ := grown_set (.mapIter (some b) c (seen.push p.1) c) ⟨_, hr1⟩
  have hgw : w.grownBy w1 (some r) ∧ w1.heap.size = w.heap.size := by
   rcases hw1 with rfl | rfl
   ·exact ⟨World.grownBy.refl _ _, rfl⟩
   ·exact ⟨⟨rfl, rfl, rfl, Nat.le_refl _, fun _ _ _ => rfl⟩, rfl⟩
  have hb2 : (ChangeMaps.setBlock w1 r (.mapIter (some b) c (seen.push p.1) c)).heap[b]? = some (.map (mapZ E) c) := by
   have := h1.block b (Array.getElem?_eq_some_iff.1 hb1).1 (by intro e; cases e; exact hne rfl)
   rw [this, hb1]
  have hbn : ((mapZ E).toList.map (·.born)).Nodup := by
   have e : (mapZ E).toList.map (·.born) = E.map (·.1) := by
    show (E.map entZ).map (·.born) = _
    rw [List.map_map]; rfl
   rw [e]; exact hnd
  have hen := run_entry_at (P := P) (ChangeMaps.setBlock w1 r (.mapIter (some b) c (seen.push p.1) c)) r b c seen (mapZ E) c (entZ p) h3 hb2 he2.1 hbn
  simp [execOp, hop, hit, hrun, Result.andThen]
  exact hK' _ _ (hMore p.1 p.2 _ hp he2.2 h3 ⟨h1.os.trans hgw.1.os, h1.tape.trans hgw.1.tape, h1.output.trans hgw.1.output, Nat.le_of_eq (h2.trans hgw.2).symm, fun k hk hne => (h1.block k (by rw [hgw.2]; exact hk) hne).trans (hgw.1.block k hk hne)⟩ (h2.trans hgw.2) hen)
end Go.Proofs.Ytjdgjhaggpahkaa
