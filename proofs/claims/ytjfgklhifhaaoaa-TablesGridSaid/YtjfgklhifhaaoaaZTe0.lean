/- Rows of elements of any kind: in memory, and owned by a call. Conditions: none. -/
import Derived.Test.YtjfgklhifhaaoaaZRd0
set_option linter.unusedVariables false
set_option linter.unusedSimpArgs false
namespace Go.Proofs.Ytjfgklhifhaaoaa
open Go.RowKit
/-- a kind of elements: the slice's type, the element's type, its cells, its bytes, its zero value, how it is laid -/
structure Knd (α : Type) where
 T : TypeId
 E : TypeId
 k : Nat
 bytes : Nat
 z : Value
 enc : α → List Value
structure Knd.Ok {α : Type} (X : Knd α) : Prop where
 ht : Try.prog.underlying X.T = some (.slice X.E)
 hi : (Try.prog.info? X.E).map (fun i => (i.zero, i.size, i.bytes)) = some (some X.z, X.k, X.bytes)
 hz : X.z.cells.size = X.k
 k0 : 0 < X.k
 by1 : X.bytes ≤ 100
 len : ∀ a, (X.enc a).length = X.k
 one : ∀ a, ∀ v ∈ X.enc a, v.oneCell' = true
section
variable {α : Type} {X : Knd α}
def Knd.flat (X : Knd α) : List α → List Value
 | [] => []
 | a :: l => X.enc a ++ X.flat l
theorem Knd.flat_len (h : X.Ok) : ∀ l : List α, (X.flat l).length = l.length * X.k
 | [] => by simp [Knd.flat]
 | a :: l => by simp only [Knd.flat, List.length_append, h.len, Knd.flat_len h l, List.length_cons, Nat.add_mul, Nat.one_mul]; omega
theorem Knd.flat_app : ∀ a b : List α, X.flat (a ++ b) = X.flat a ++ X.flat b
 | [], b => rfl
 | x :: a, b => by simp [Knd.flat, Knd.flat_app a b]
theorem Knd.flat_get (h : X.Ok) : ∀ (l : List α) (j i : Nat) (hj : j < l.length) (_ : i < X.k), (X.flat l)[j * X.k + i]? = (X.enc l[j])[i]?
 | [], j, i, hj, _ => by simp at hj
 | a :: l, 0, i, _, hi => by
  rw [Nat.zero_mul, Nat.zero_add]
  simp only [Knd.flat, List.getElem_cons_zero]
  rw [List.getElem?_append_left (by rw [h.len]; exact hi)]
 | a :: l, j + 1, i, hj, hi => by
  have h' := Knd.flat_get h l j i (by simpa using hj) hi
  rw [Nat.add_mul, Nat.one_mul, Nat.add_right_comm]
  simp only [Knd.flat, List.getElem_cons_succ]
  rw [List.getElem?_append_right (by rw [h.len]; omega), h.len, Nat.add_sub_cancel]
  exact h'
theorem Knd.enc_lt (h : X.Ok) {a : α} {i : Nat} {v : Value} (hv : (X.enc a)[i]? = some v) : i < X.k := by
 rw [← h.len a]
 exact (List.getElem?_eq_some_iff.1 hv).1
/-- an element's cells -/
def Knd.At (X : Knd α) (w : World) (b o : Nat) (a : α) : Prop := ∀ i v, (X.enc a)[i]? = some v → w.cell? ⟨b, o + i, none⟩ = some v
theorem Knd.At.keep {w w' : World} {b o : Nat} {a : α} (h : Below w.heap.size w w') (hc : X.At w b o a) : X.At w' b o a := fun i v hv => keep_cell h (hc i v hv)
/-- a slice of elements in memory -/
structure Knd.Rd (X : Knd α) (w : World) (A : Option Addr) (c : Nat) (l : List α) : Prop where
 cap : l.length ≤ c
 max : c ≤ 9223372036854775807
 rd : 0 < l.length → ∃ b o, A = some ⟨b, o, none⟩ ∧ b < w.heap.size ∧ ∀ j (h : j < l.length), X.At w b (o + j * X.k) l[j]
theorem Knd.Rd.below {w w' : World} {A : Option Addr} {c : Nat} {l : List α} (h : X.Rd w A c l) (hb : Below w.heap.size w w') : X.Rd w' A c l :=
 ⟨h.cap, h.max, fun hl => by
  obtain ⟨b, o, e, hlt, hc⟩ := h.rd hl
  exact ⟨b, o, e, Nat.lt_of_lt_of_le hlt hb.size, fun j hj => (hc j hj).keep hb⟩⟩
theorem Knd.Rd.at_ {w : World} {A : Option Addr} {c : Nat} {l : List α} (h : X.Rd w A c l) {j : Nat} (hj : j < l.length) : ∃ b o, A = some ⟨b, o, none⟩ ∧ X.At w b (o + j * X.k) l[j] := by
 obtain ⟨b, o, e, _, hc⟩ := h.rd (by omega)
 exact ⟨b, o, e, hc j hj⟩
theorem Knd.Rd.nil (w : World) : X.Rd w none 0 [] := ⟨Nat.le_refl _, by omega, fun h => by simp at h⟩
theorem Knd.Rd.take {w : World} {A : Option Addr} {c : Nat} {l : List α} (h : X.Rd w A c l) (n : Nat) : X.Rd w A c (l.take n) := by
 refine ⟨Nat.le_trans (by rw [List.length_take]; omega) h.cap, h.max, fun hl => ?_⟩
 obtain ⟨b, o, e, hB, hc⟩ := h.rd (by rw [List.length_take] at hl; omega)
 refine ⟨b, o, e, hB, fun j hj => ?_⟩
 have hj' : j < l.length := by rw [List.length_take] at hj; omega
 have := hc j hj'
 rwa [List.getElem_take]
theorem Knd.Rd.cast {w : World} {A : Option Addr} {c : Nat} {l m : List α} (h : X.Rd w A c l) (e : l = m) : X.Rd w A c m := e ▸ h
/-- a row that the call owns -/
def Knd.Own (X : Knd α) (w : World) (base : Nat) (v : Value) (l : List α) : Prop := w.ownsRow base X.E X.k v l.length (X.flat l)
theorem Knd.Own.nil (w : World) (base : Nat) : X.Own w base (.slice none 0 0) [] := by
 have h := World.ownsRow_nil w base X.E X.k
 exact h
theorem Knd.Own.older {w : World} {base base' : Nat} {v : Value} {l : List α} (hb : base' ≤ base) (h : X.Own w base v l) : X.Own w base' v l := by
 refine ⟨h.1, ?_⟩
 rcases h.2 with h2 | ⟨g, cap, cur, hv, hg, hh, r⟩
 ·exact .inl h2
 ·exact .inr ⟨g, cap, cur, hv, Nat.le_trans hb hg, hh, r⟩
theorem Knd.Own.kept {w w' : World} {base : Nat} {v : Value} {l : List α} (h : X.Own w base v l) (hb : ∀ k, v.ownBlock = some k → w'.heap[k]? = w.heap[k]?) : X.Own w' base v l := by
 refine ⟨h.1, ?_⟩
 rcases h.2 with h2 | ⟨g, cap, cur, hv, hg, hh, r⟩
 ·exact .inl h2
 ·exact .inr ⟨g, cap, cur, hv, hg, (hb g (by rw [hv]; rfl)).trans hh, r⟩
theorem Knd.Own.lt {w : World} {base : Nat} {v : Value} {l : List α} (h : X.Own w base v l) {k : Nat} (hk : v.ownBlock = some k) : base ≤ k ∧ k < w.heap.size := World.ownsRow.lt h k hk
theorem Knd.Own.below {w w' : World} {base : Nat} {v : Value} {l : List α} (h : X.Own w base v l) (hb : Below w.heap.size w w') : X.Own w' base v l :=
 h.kept fun k hk => hb.block k (h.lt hk).2
theorem Knd.Own.grown {w w' : World} {base : Nat} {v : Value} {l : List α} (h : X.Own w base v l) {row : Option Nat} (hg : w.grownBy w' row) (hne : v.ownBlock = none ∨ v.ownBlock ≠ row) : X.Own w' base v l :=
 h.kept fun k hk => hg.block k (h.lt hk).2 (by rcases hne with e | e; (rw [e] at hk; cases hk); (rw [hk] at e; exact e))
theorem add_plain (g o j : Nat) : (⟨g, o, none⟩ : Addr).add j = ⟨g, o + j, none⟩ := by simp [Addr.add]
theorem Knd.Own.rd (ok : X.Ok) {w : World} {base : Nat} {v : Value} {l : List α} (h : X.Own w base v l) : ∃ A c, v = .slice A l.length c ∧ X.Rd w A c l := by
 rcases h.2 with ⟨rfl, h0⟩ | ⟨g, cap, cur, rfl, hbg, hg, hnc, hmx, hcs, htake⟩
 ·obtain rfl : l = [] := List.eq_nil_of_length_eq_zero h0
  exact ⟨none, 0, rfl, Knd.Rd.nil w⟩
 ·refine ⟨_, cap, rfl, hnc, by unfold maxLen at hmx; omega, fun h0 => ⟨g, 0, rfl, (Array.getElem?_eq_some_iff.1 hg).1, fun j hj i u hu => ?_⟩⟩
  have := World.ownsRow.cells h (g := g) rfl (j * X.k + i) u (by rw [Knd.flat_get ok l j i hj (Knd.enc_lt ok hu)]; exact hu)
  rw [add_plain] at this
  rw [Nat.add_assoc]
  exact this
theorem Knd.Own.form (ok : X.Ok) {w : World} {base : Nat} {v : Value} {l : List α} (h : X.Own w base v l) : ∃ A c, v = .slice A l.length c := by
 obtain ⟨A, c, e, _⟩ := h.rd ok
 exact ⟨A, c, e⟩
theorem Knd.run_app (ok : X.Ok) {w : World} (ty : TypeId) (base : Nat) (v : Value) (l m : List α) (g o c : Nat) (hown : X.Own w base v l) (hr : ∀ j (h : j < m.length), X.At w g (o + j * X.k) m[j]) (hl : l.length ≤ 100000000) (hm : m.length ≤ 100000000) (hbase : base ≤ w.heap.size) :
  ∃ v' w', (Builtin.append_ #[X.T, X.T] ty #[v, .slice (some ⟨g, o, none⟩) m.length c]).run Try.prog w = .ok v' w' ∧ X.Own w' base v' (l ++ m) ∧ w.grownBy w' v.ownBlock ∧ (v'.ownBlock = v.ownBlock ∨ v'.ownBlock = some w.heap.size) := by
 obtain ⟨i, hi, hzz⟩ := Option.map_eq_some_iff.1 ok.hi
 simp only [Prod.mk.injEq] at hzz
 obtain ⟨hz, hs2, hb⟩ := hzz
 have hnews : ∀ j u, (X.flat m)[j]? = some u → w.cell? ((⟨g, o, none⟩ : Addr).add j) = some u := fun j u hu => by
  have hj := (List.getElem?_eq_some_iff.1 hu).1
  rw [Knd.flat_len ok] at hj
  have hk := ok.k0
  have hq : j / X.k < m.length := Nat.div_lt_of_lt_mul (by rw [Nat.mul_comm]; exact hj)
  have e : j / X.k * X.k + j % X.k = j := by rw [Nat.mul_comm]; exact Nat.div_add_mod j X.k
  have := Knd.flat_get ok m (j / X.k) (j % X.k) hq (Nat.mod_lt _ hk)
  rw [e] at this
  rw [this] at hu
  rw [add_plain, ← e, ← Nat.add_assoc]
  exact hr _ hq _ _ hu
 have hone : ∀ u ∈ X.flat m, u.oneCell' = true := by
  clear hr hnews hm
  induction m with
  | nil => intro u hu; cases hu
  | cons a m ih =>
   intro u hu
   rcases List.mem_append.1 hu with h | h
   ·exact ok.one a u h
   ·exact ih u h
 have hbb : (l.length + m.length) * X.bytes ≤ 140737488355328 := Nat.le_trans (Nat.mul_le_mul_left _ ok.by1) (by omega)
 obtain ⟨v', w', hrun, h2, h3, _, h4⟩ := run_append_own_at (P := Try.prog) w base X.T ty X.E i _ X.k X.bytes ok.ht hi hz hs2 hb ok.hz ok.k0 v l.length (X.flat l) hown ⟨g, o, none⟩ m.length c (X.flat m) (Knd.flat_len ok m) hnews hone (by unfold maxLen; omega) hbb hbase
 exact ⟨v', w', hrun, by unfold Knd.Own; rw [List.length_append, Knd.flat_app]; exact h2, h3, h4⟩
/-- append of a slice of elements: at any place of a plain region -/
theorem Knd.apps (ok : X.Ok) {w : World} {ops : Array Oper} {rest : List Oper} {o : Oper} {a : Act} {Q : Exit → Act → World → Prop} (hgd : o.guard = none) (s x : Operand)
  (ho : o.op = .call { callee := .builtin .append, args := #[s, x], argTypes := #[X.T, X.T] })
  (base : Nat) (v : Value) (l m : List α) (g off c : Nat) (hs : a.eval s = v) (hown : X.Own w base v l) (hx : a.eval x = .slice (some ⟨g, off, none⟩) m.length c)
  (hr : ∀ j (h : j < m.length), X.At w g (off + j * X.k) m[j]) (hl : l.length ≤ 100000000) (hm : m.length ≤ 100000000) (hbase : base ≤ w.heap.size)
  (h : ∀ v' w', X.Own w' base v' (l ++ m) → w.grownBy w' v.ownBlock → (v'.ownBlock = v.ownBlock ∨ v'.ownBlock = some w.heap.size) → wpList Try.prog ops Q rest (a.put o.dst v') w') : wpList Try.prog ops Q (o :: rest) a w := by
 refine wpList_plain hgd fun _ hK => ?_
 obtain ⟨v', w', hrun, h2, h3, h4⟩ := Knd.run_app ok o.type base v l m g off c hown hr hl hm hbase
 unfold Oper.wp execOp
 simp only [ho, resolve, invoke, builtin, Sem.run_bind, Sem.run_pure, Result.andThen_ok, List.map_toArray, List.map_cons, List.map_nil, hs, hx, hrun]
 exact hK _ _ (h v' w' h2 h3 h4)
/-- append of one element from a box -/
theorem Knd.app1 (ok : X.Ok) {w : World} {ops : Array Oper} {rest : List Oper} {o : Oper} {a : Act} {Q : Exit → Act → World → Prop} (hgd : o.guard = none) (s x : Operand)
  (ho : o.op = .call { callee := .builtin .append, args := #[s, x], argTypes := #[X.T, X.T] })
  (base : Nat) (v : Value) (l : List α) (p : α) (g : Nat) (hs : a.eval s = v) (hown : X.Own w base v l) (hx : a.eval x = .slice (some ⟨g, 0, none⟩) 1 1)
  (hr : w.rangeAt g 0 (X.enc p)) (hl : l.length ≤ 100000000) (hbase : base ≤ w.heap.size)
  (h : ∀ v' w', X.Own w' base v' (l ++ [p]) → w.grownBy w' v.ownBlock → (v'.ownBlock = v.ownBlock ∨ v'.ownBlock = some w.heap.size) → wpList Try.prog ops Q rest (a.put o.dst v') w') : wpList Try.prog ops Q (o :: rest) a w :=
 Knd.apps ok hgd s x ho base v l [p] g 0 1 hs hown hx (fun j hj => by
  obtain rfl : j = 0 := by simpa using hj
  intro i u hu
  have := hr i u hu
  rw [Nat.zero_add] at this
  simpa using this) hl (by simp) hbase h
/-- the row without its last element: the capacity stays -/
theorem Knd.Own.pop (ok : X.Ok) {w : World} {base : Nat} {A : Option Addr} {n c : Nat} {l : List α} {p : α} (h : X.Own w base (.slice A n c) (l ++ [p])) : X.Own w base (.slice A (n - 1) c) l := by
 refine ⟨by rw [Knd.flat_len ok], ?_⟩
 rcases h.2 with ⟨_, h2⟩ | ⟨g, cap, cur, hv, hg, hh, hnc, hmx, hcs, ht⟩
 ·simp at h2
 ·injection hv with h1 h2 h3
  subst h1 h3
  have hn : n = l.length + 1 := by rw [h2]; simp
  refine .inr ⟨g, c, cur, by rw [hn]; rfl, hg, hh, by simp at hnc; omega, hmx, hcs, ?_⟩
  have ht2 := congrArg (List.take (l.length * X.k)) ht
  rw [List.take_take, Knd.flat_app, List.take_left' (Knd.flat_len ok l)] at ht2
  rw [← ht2]
  congr 1
  rw [List.length_append, Nat.add_mul]
  omega
/-- what grows in an own row keeps what lay below -/
theorem Knd.grown {B : Nat} {a w w' : World} {base : Nat} {v : Value} {l : List α} (hb : Below B a w) (ho : X.Own w base v l) (hg : w.grownBy w' v.ownBlock) (hB : B ≤ w.heap.size) (hbase : B ≤ base) : Below B a w' :=
 Below.grown hb hg hB fun k e => Nat.le_trans hbase (ho.lt e).1
/-- a row that comes back: it lies in memory that the call made -/
def Knd.Ret (X : Knd α) (w : World) (l : List α) (e : Ending) (w' : World) : Prop := ∃ v, e = .returned v ∧ X.Own w' w.heap.size v l ∧ Below w.heap.size w w'
end
theorem Knd.Own.rd2 {α : Type} {X : Knd α} (ok : X.Ok) {w : World} {base n c : Nat} {A : Option Addr} {l : List α} (h : X.Own w base (.slice A n c) l) : X.Rd w A c l ∧ n = l.length := by
 obtain ⟨A', c', e, hr⟩ := h.rd ok
 injection e with e1 e2 e3
 subst e1 e2 e3
 exact ⟨hr, rfl⟩
theorem own_sep {α β : Type} {X : Knd α} {Y : Knd β} {w1 w2 : World} {b1 b2 : Nat} {v u : Value} {l : List α} {m : List β} (h1 : X.Own w1 b1 v l) (h2 : Y.Own w2 b2 u m) (hb : w2.heap.size ≤ b1) : v.ownBlock = none ∨ v.ownBlock ≠ u.ownBlock := by
 cases hk : v.ownBlock with
 | none => exact .inl rfl
 | some k =>
  refine .inr fun e => ?_
  have a1 := (h1.lt hk).1
  have a2 := (h2.lt e.symm).2
  omega
end Go.Proofs.Ytjfgklhifhaaoaa
