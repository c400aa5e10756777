/- Package fraction: walks of opposite, reciprocal, Sub, Mul, Div. Conditions: none. -/
import Derived.Test.YtglailcfgcdagaaGreatZYK
import Derived.Test.YtglailcfgcdagaaGreatZYA
import Derived.Deep.DeepCutAuto
import Derived.Deep.Light
set_option linter.unusedVariables false
set_option linter.unusedSimpArgs false
namespace Go.Proofs.YtglailcfgcdagaaGreat
open Go.RowKit Big
end Go.Proofs.YtglailcfgcdagaaGreat
/- Package fraction: walks of Cmp, Floor, Round. Conditions: none. -/
namespace Go.Proofs.YtglailcfgcdagaaGreat
open Go.RowKit Big
end Go.Proofs.YtglailcfgcdagaaGreat
/- Package fraction: the walk of unfold. Conditions: none. -/
namespace Go.Proofs.YtglailcfgcdagaaGreat
open Go.RowKit Big
theorem Zn.alloc {W : World} {g : Nat} {o : Obj} (h : Zn W g) : Zn (W.alloc o) g := h.below ((Below.refl _ _).alloc (Nat.le_refl _) _)
theorem Zn.drew {W : World} {g : Nat} (h : Zn W g) : Zn W.drew g := ⟨h.lt, h.fr⟩
theorem Zn.set {W : World} {g : Nat} {a : Addr} {u : Value} (h : Zn W g) : Zn (W.setCell a u) g := ⟨by have := h.lt; simpa using this, fun i => by have := h.fr i; simpa using this⟩
theorem Zn.new {W : World} {X : Array Value} {t : TypeId} {g : Nat} (hg : g = W.heap.size) : Zn (W.alloc (.cells X t)) g := by
 subst hg
 obtain ⟨_, q, r⟩ := box_keep (w := W) (Below.refl _ (W.alloc (.cells X t)))
 exact ⟨r, q⟩
/-- a term of a continued fraction, and where its limbs lie -/
structure Te where
 t : Nat
 A : Option Addr
 c : Nat
structure TeAt (w : World) (g o : Nat) (f : Te) : Prop where
 c0 : w.cell? ⟨g, o, none⟩ = some (.bool false)
 c1 : w.cell? ⟨g, o + 1, none⟩ = some (.slice f.A (limbs f.t).length f.c)
 m : Mg w f.A f.c (limbs f.t)
theorem TeAt.below {w w' : World} {g o : Nat} {f : Te} (h : TeAt w g o f) (hb : Below w.heap.size w w') : TeAt w' g o f :=
 ⟨keep_cell hb h.c0, keep_cell hb h.c1, h.m.below hb⟩
end Go.Proofs.YtglailcfgcdagaaGreat
/- A row of terms that the call owns: elements of two cells. Conditions: none. -/
namespace Go.Proofs.YtglailcfgcdagaaGreat
open Go.RowKit Big
def Te.cells (f : Te) : List Value := [.bool false, .slice f.A (limbs f.t).length f.c]
def cellsT : List Te → List Value
 | [] => []
 | f :: ts => f.cells ++ cellsT ts
theorem cellsT_get : ∀ (ts : List Te) (j : Nat) (h : j < ts.length), (cellsT ts)[j * 2]? = some (.bool false) ∧ (cellsT ts)[j * 2 + 1]? = some (.slice ts[j].A (limbs ts[j].t).length ts[j].c)
 | [], j, h => by simp at h
 | f :: ts, 0, _ => ⟨rfl, rfl⟩
 | f :: ts, j + 1, h => by
  have h' := cellsT_get ts j (by simpa using h)
  have e1 : (j + 1) * 2 = j * 2 + 2 := by omega
  have e2 : (j + 1) * 2 + 1 = j * 2 + 1 + 2 := by omega
  rw [e1]
  exact ⟨h'.1, h'.2⟩
def isW : Value → Bool
 | .int .u32 _ => true
 | _ => false
/-- a row of terms that the call owns; no cell of its block holds a limb -/
structure OwnT (w : World) (base : Nat) (v : Value) (ts : List Te) : Prop where
 own : w.ownsRow base 43 2 v ts.length (cellsT ts)
 ni : ∀ k, v.ownBlock = some k → ∀ cur e fz, w.heap[k]? = some (.cells cur e fz) → ∀ x ∈ cur.toList, isW x = false
theorem OwnT.nil (w : World) (base : Nat) : OwnT w base (.slice none 0 0) [] := ⟨World.ownsRow_nil _ _ _ _, fun k h => by simp [Value.ownBlock] at h⟩
theorem OwnT.below {w w' : World} {base : Nat} {v : Value} {ts : List Te} (h : OwnT w base v ts) (hb : Below w.heap.size w w') : OwnT w' base v ts := by
 refine ⟨⟨h.own.1, ?_⟩, fun k hk cur e fz hc => ?_⟩
 ·rcases h.own.2 with h2 | ⟨g, cap, cur, hv, hg, hh, r⟩
  ·exact .inl h2
  ·exact .inr ⟨g, cap, cur, hv, hg, (hb.block g (Array.getElem?_eq_some_iff.1 hh).1).trans hh, r⟩
 ·exact h.ni k hk cur e fz ((hb.block k (h.own.lt k hk).2).symm.trans hc)
/-- limbs lie in no such block -/
theorem OwnT.far {w : World} {base : Nat} {v : Value} {ts : List Te} (h : OwnT w base v ts) {A : Option Addr} {c : Nat} {xs : List Nat} (m : Mg w A c xs) (hl : 0 < xs.length) : ∀ p, A = some p → some p.block ≠ v.ownBlock := by
 intro p hp he
 obtain ⟨b, o, e, hB, hc⟩ := m.rd hl
 rw [e] at hp
 injection hp with hp
 subst hp
 have h1 := hc 0 hl
 have h2 := h.ni b he.symm
 unfold World.cell? at h1
 simp only [Option.isSome_none, Bool.false_eq_true, if_false] at h1
 split at h1
 ·rename_i cur e' fz hq
  have h3 := h2 cur e' fz hq (lim xs[0]) (by
   obtain ⟨h4, h5⟩ := Array.getElem?_eq_some_iff.1 h1
   rw [← h5]; exact Array.getElem_mem_toList h4)
  simp [lim, isW] at h3
 ·cases h1
theorem Mg.grownT {w w' : World} {base : Nat} {v : Value} {ts : List Te} (h : OwnT w base v ts) {A : Option Addr} {c : Nat} {xs : List Nat} (m : Mg w A c xs) (hg : w.grownBy w' v.ownBlock) : Mg w' A c xs :=
 ⟨m.cap, m.max, m.ok, fun hl => by
  have hne := h.far m hl
  obtain ⟨b, o, e, hB, hc⟩ := m.rd hl
  exact ⟨b, o, e, Nat.lt_of_lt_of_le hB hg.size, fun j hj => (World.cell?_of_block (a := ⟨b, o + j, none⟩) (hg.block b hB (hne _ e))).trans (hc j hj)⟩⟩
theorem Zn.grownT {w w' : World} {row : Option Nat} (hg : w.grownBy w' row) {b : Nat} (hne : some b ≠ row) (h : Zn w b) : Zn w' b :=
 ⟨Nat.lt_of_lt_of_le h.lt hg.size, fun i => (World.frozen?_of_block (a := ⟨b, i, none⟩) (hg.block b h.lt hne)).trans (h.fr i)⟩
section
variable {P : Program}
end
/-- the limbs of the terms -/
structure TMg (w : World) (ts : List Te) : Prop where
 m : ∀ j (h : j < ts.length), Mg w ts[j].A ts[j].c (limbs ts[j].t)
theorem TMg.below {w w' : World} {ts : List Te} (h : TMg w ts) (hb : Below w.heap.size w w') : TMg w' ts := ⟨fun j hj => (h.m j hj).below hb⟩
theorem TMg.nil (w : World) : TMg w [] := ⟨fun j h => by simp at h⟩
theorem TMg.grown {w w' : World} {base : Nat} {v : Value} {ts us : List Te} (h : TMg w ts) (ho : OwnT w base v us) (hg : w.grownBy w' v.ownBlock) : TMg w' ts := ⟨fun j hj => (h.m j hj).grownT ho hg⟩
theorem TMg.mono {w w' : World} {ts : List Te} (h : TMg w ts) (f : ∀ A c xs, Mg w A c xs → Mg w' A c xs) : TMg w' ts := ⟨fun j hj => f _ _ _ (h.m j hj)⟩
theorem OwnT.form {w : World} {base : Nat} {v : Value} {ts : List Te} (h : OwnT w base v ts) : ∃ A c, v = .slice A ts.length c ∧ ts.length ≤ c ∧ c ≤ 9223372036854775807 := by
 rcases h.own.2 with ⟨rfl, h0⟩ | ⟨g, cap, cur, rfl, _, hg, hnc, hmx, hcs, htake⟩
 ·exact ⟨none, 0, by rw [h0], by omega, by omega⟩
 ·exact ⟨_, cap, rfl, hnc, by unfold maxLen at hmx; omega⟩
theorem OwnT.at_ {w : World} {base : Nat} {A : Option Addr} {n c : Nat} {ts : List Te} (h : OwnT w base (.slice A n c) ts) (hm : TMg w ts) : 0 < ts.length → ∃ g, A = some ⟨g, 0, none⟩ ∧ ∀ j (h : j < ts.length), TeAt w g (j * 2) ts[j] := by
 intro h0
 rcases h.own.2 with ⟨_, h1⟩ | ⟨g, cap, cur, hv, _, hg, hnc, hmx, hcs, htake⟩
 ·omega
 ·injection hv with hv
  refine ⟨g, hv, fun j hj => ?_⟩
  obtain ⟨h1, h2⟩ := cellsT_get ts j hj
  rw [← htake] at h1 h2
  rw [List.getElem?_take, if_pos (by omega)] at h1 h2
  refine ⟨?_, ?_, hm.m j hj⟩
  ·rw [cell_of_row w g _ cur _ _ hg]; simpa using h1
  ·rw [cell_of_row w g _ cur _ _ hg]; simpa using h2
/-- another block is written: the row stays -/
theorem OwnT.set {w : World} {base : Nat} {v : Value} {ts : List Te} (h : OwnT w base v ts) {g i : Nat} {u : Value} (hg : g < base) : OwnT (w.setCell ⟨g, i, none⟩ u) base v ts := by
 have hne : ∀ k, v.ownBlock = some k → (w.setCell ⟨g, i, none⟩ u).heap[k]? = w.heap[k]? := fun k hk => by
  have := (h.own.lt k hk).1
  exact Below.heap_setCell w ⟨g, i, none⟩ u k (by simp; omega)
 refine ⟨⟨h.own.1, ?_⟩, fun k hk cur e fz hc => h.ni k hk cur e fz ((hne k hk).symm.trans hc)⟩
 rcases h.own.2 with h2 | ⟨g', cap, cur, hv, hg', hh, r⟩
 ·exact .inl h2
 ·exact .inr ⟨g', cap, cur, hv, hg', (hne g' (by rw [hv]; rfl)).trans hh, r⟩
end Go.Proofs.YtglailcfgcdagaaGreat
