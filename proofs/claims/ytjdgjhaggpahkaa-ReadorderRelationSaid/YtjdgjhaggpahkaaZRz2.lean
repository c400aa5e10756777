/- Reading order: rows of lists of indexes that a call owns, and lists of lists in memory. Conditions: none. -/
import Derived.Test.YtjdgjhaggpahkaaZRz1
set_option linter.unusedVariables false
set_option linter.unusedSimpArgs false
namespace Go.Proofs.Ytjdgjhaggpahkaa
open Go.RowKit
/-- a list of lists of indexes in memory; E names how an element's cell looks -/
structure Zls (w : World) (v : Value) (L : List (List Nat)) : Prop where
 ex : ∃ A c, v = .slice A L.length c ∧ L.length ≤ c ∧ c ≤ 9223372036854775807 ∧ (0 < L.length → ∃ g o, A = some ⟨g, o, none⟩ ∧ g < w.heap.size ∧ ∀ j (h : j < L.length), ∃ u, w.cell? ⟨g, o + j, none⟩ = some u ∧ Zs w u L[j])
theorem Zls.nil (w : World) : Zls w (.slice none 0 0) [] := ⟨none, 0, rfl, Nat.le_refl _, by omega, fun h => by simp at h⟩
theorem Zls.below {w w' : World} {v : Value} {L : List (List Nat)} (h : Zls w v L) (hb : Below w.heap.size w w') : Zls w' v L := by
 obtain ⟨A, c, e, h1, h2, h3⟩ := h.ex
 refine ⟨A, c, e, h1, h2, fun h0 => ?_⟩
 obtain ⟨g, o, e2, h4, h5⟩ := h3 h0
 exact ⟨g, o, e2, Nat.lt_of_lt_of_le h4 hb.size, fun j hj => by
  obtain ⟨u, hu, hz⟩ := h5 j hj
  exact ⟨u, keep_cell hb hu, hz.below hb⟩⟩
theorem Zls.form {w : World} {v : Value} {L : List (List Nat)} (h : Zls w v L) : ∃ A c, v = .slice A L.length c ∧ L.length ≤ c ∧ c ≤ 9223372036854775807 := by
 obtain ⟨A, c, e, h1, h2, _⟩ := h.ex
 exact ⟨A, c, e, h1, h2⟩
theorem Zls.at_ {w : World} {A : Option Addr} {n c : Nat} {L : List (List Nat)} (h : Zls w (.slice A n c) L) {j : Nat} (hj : j < L.length) : ∃ g o u, A = some ⟨g, o, none⟩ ∧ w.cell? ⟨g, o + j, none⟩ = some u ∧ Zs w u L[j] := by
 obtain ⟨A', c', e, _, _, h3⟩ := h.ex
 injection e with e1 e2 e3
 subst e1
 obtain ⟨g, o, e2, _, h5⟩ := h3 (by omega)
 obtain ⟨u, h6, h7⟩ := h5 j hj
 exact ⟨g, o, u, e2, h6, h7⟩
/-- append of one cell to an own row of one-cell elements -/
theorem wpList_appV {P : Program} {w : World} {ops : Array Oper} {rest : List Oper} {o : Oper} {a : Act} {Q : Exit → Act → World → Prop} (hgd : o.guard = none) (s x : Operand) (t e : TypeId) (z : Value) (bytes : Nat) (hby : bytes ≤ 1000)
    (ho : o.op = .call { callee := .builtin .append, args := #[s, x], argTypes := #[t, t] }) (ht : P.underlying t = some (.slice e)) (hinfo : (P.info? e).map (fun i => (i.zero, i.size, i.bytes)) = some (some z, 1, bytes)) (hz1 : z.cells.size = 1)
    (base : Nat) (v : Value) (xs : List Value) (u : Value) (g : Nat) (hs : a.eval s = v) (hown : w.ownsRow base e 1 v xs.length xs) (hx : a.eval x = .slice (some ⟨g, 0, none⟩) 1 1)
    (hc : w.cell? ⟨g, 0, none⟩ = some u) (hu : u.oneCell' = true) (hl : xs.length ≤ 1000000) (hbase : base ≤ w.heap.size)
    (h : ∀ v' w', w'.ownsRow base e 1 v' (xs.length + 1) (xs ++ [u]) → w.grownBy w' v.ownBlock → (v'.ownBlock = v.ownBlock ∨ v'.ownBlock = some w.heap.size) → wpList P ops Q rest (a.put o.dst v') w') : wpList P ops Q (o :: rest) a w := by
  refine wpList_plain hgd fun _ hK => ?_
  obtain ⟨i, hi, hzz⟩ := Option.map_eq_some_iff.1 hinfo
  simp only [Prod.mk.injEq] at hzz
  obtain ⟨hz, hs2, hb⟩ := hzz
  obtain ⟨v', w', hrun, h2, h3, _, h4⟩ := run_append_own_at (P := P) w base t o.type e i _ 1 bytes ht hi hz hs2 hb hz1 (by omega) v xs.length xs hown ⟨g, 0, none⟩ 1 1 [u] rfl (fun j q hq => by
    match j, hq with
    | 0, hq => obtain rfl : u = q := by simpa using hq
               exact hc
    | j + 1, hq => simp at hq) (fun q hq => by obtain rfl : q = u := by simpa using hq
                                               exact hu) (by unfold maxLen; omega) (by
      have : (xs.length + 1) * bytes ≤ 1000001 * 1000 := Nat.mul_le_mul (by omega) hby
      omega) hbase
  unfold Oper.wp execOp
  simp only [ho, resolve, invoke, builtin, Sem.run_bind, Sem.run_pure, Result.andThen_ok, List.map_toArray, List.map_cons, List.map_nil, hs, hx, hrun]
  exact hK _ _ (h v' w' h2 h3 h4)
/-- an own row of own rows, no two in one block -/
structure Grps (w : World) (B B2 : Nat) (e : TypeId) (v : Value) (vs : List Value) (Ls : List (List Nat)) : Prop where
 out : w.ownsRow B e 1 v vs.length vs
 len : vs.length = Ls.length
 own : ∀ j (h : j < vs.length) (h' : j < Ls.length), OwnZ w B2 vs[j] Ls[j]
 apart : ∀ j k (h : j < vs.length) (h' : k < vs.length), j ≠ k → vs[j].ownBlock = none ∨ vs[j].ownBlock ≠ vs[k].ownBlock
 far : ∀ j (h : j < vs.length), vs[j].ownBlock = none ∨ vs[j].ownBlock ≠ v.ownBlock
theorem Grps.nil (w : World) (B B2 : Nat) (e : TypeId) : Grps w B B2 e (.slice none 0 0) [] [] := ⟨World.ownsRow_nil _ _ _ _, rfl, fun j h => by simp at h, fun j k h => by simp at h, fun j h => by simp at h⟩
theorem Grps.below {w w' : World} {B B2 : Nat} {e : TypeId} {v : Value} {vs : List Value} {Ls : List (List Nat)} (h : Grps w B B2 e v vs Ls) (hb : Below w.heap.size w w') : Grps w' B B2 e v vs Ls := by
 refine ⟨⟨h.out.1, ?_⟩, h.len, fun j h1 h2 => (h.own j h1 h2).below hb, h.apart, h.far⟩
 rcases h.out.2 with h2 | ⟨g, cap, cur, hv, hg, hh, r⟩
 ·exact .inl h2
 ·exact .inr ⟨g, cap, cur, hv, hg, (hb.block g (Array.getElem?_eq_some_iff.1 hh).1).trans hh, r⟩
theorem Grps.lt {w : World} {B B2 : Nat} {e : TypeId} {v : Value} {vs : List Value} {Ls : List (List Nat)} (h : Grps w B B2 e v vs Ls) {k : Nat} (hk : v.ownBlock = some k) : B ≤ k ∧ k < w.heap.size := World.ownsRow.lt h.out k hk
/-- an empty list (or another own row of a block apart) comes behind -/
theorem Grps.push {w w' : World} {B B2 : Nat} {e : TypeId} {v v' u : Value} {vs : List Value} {Ls : List (List Nat)} {l : List Nat} (h : Grps w B B2 e v vs Ls) (hO : w'.ownsRow B e 1 v' (vs.length + 1) (vs ++ [u])) (hg : w.grownBy w' v.ownBlock) (hat : v'.ownBlock = v.ownBlock ∨ v'.ownBlock = some w.heap.size)
    (hu : OwnZ w B2 u l) (hua : ∀ j (h : j < vs.length), vs[j].ownBlock = none ∨ vs[j].ownBlock ≠ u.ownBlock) (hua2 : u.ownBlock = none ∨ ((∀ j (h : j < vs.length), u.ownBlock ≠ vs[j].ownBlock) ∧ u.ownBlock ≠ v.ownBlock)) : Grps w' B B2 e v' (vs ++ [u]) (Ls ++ [l]) := by
  have hfar : ∀ (x : Value) (lx : List Nat), OwnZ w B2 x lx → (x.ownBlock = none ∨ x.ownBlock ≠ v.ownBlock) → (x.ownBlock = none ∨ x.ownBlock ≠ v'.ownBlock) := fun x lx hx hh => by
    rcases hh with hh | hh
    · exact .inl hh
    · rcases hat with e1 | e1
      · rw [e1]; exact .inr hh
      · rw [e1]
        cases hq : x.ownBlock with
        | none => exact .inl rfl
        | some k => refine .inr fun e2 => ?_
                    have := (hx.lt hq).2
                    injection e2 with e2
                    omega
  have hun : u.ownBlock = none ∨ u.ownBlock ≠ v.ownBlock := by
    rcases hua2 with e1 | e1
    · exact .inl e1
    · exact .inr e1.2
  refine ⟨by rw [List.length_append]; exact hO, by simp [h.len], fun j h1 h2 => ?_, fun j k h1 h2 hne => ?_, fun j h1 => ?_⟩
  · by_cases hj : j < vs.length
    · have hj' : j < Ls.length := h.len ▸ hj
      rw [List.getElem_append_left hj, List.getElem_append_left hj']
      exact (h.own j hj hj').grown hg (h.far j hj)
    · obtain rfl : j = vs.length := by simp at h1; omega
      have := h.len
      simp only [this, List.getElem_concat_length]
      exact hu.grown hg hun
  · by_cases hj : j < vs.length
    · rw [List.getElem_append_left hj]
      by_cases hk : k < vs.length
      · rw [List.getElem_append_left hk]; exact h.apart j k hj hk hne
      · obtain rfl : k = vs.length := by simp at h2; omega
        simp only [List.getElem_concat_length]
        exact hua j hj
    · obtain rfl : j = vs.length := by simp at h1; omega
      simp only [List.getElem_concat_length]
      by_cases hk : k < vs.length
      · rw [List.getElem_append_left hk]
        rcases hua2 with e1 | e1
        · exact .inl e1
        · exact .inr (e1.1 k hk)
      · simp at h2; omega
  · by_cases hj : j < vs.length
    · rw [List.getElem_append_left hj]
      exact hfar _ _ (h.own j hj (h.len ▸ hj)) (h.far j hj)
    · obtain rfl : j = vs.length := by simp at h1; omega
      simp only [List.getElem_concat_length]
      exact hfar _ _ hu hun
/-- the k-th list grows and its new slice is stored -/
theorem Grps.app {w w' : World} {B B2 : Nat} {e : TypeId} {g n cap : Nat} {u' : Value} {vs : List Value} {Ls : List (List Nat)} {l' : List Nat} (h : Grps w B B2 e (.slice (some ⟨g, 0, none⟩) n cap) vs Ls) {k : Nat} (hk : k < vs.length) (hO : OwnZ w' B2 u' l') (hg : w.grownBy w' vs[k].ownBlock)
    (hat : u'.ownBlock = vs[k].ownBlock ∨ u'.ownBlock = some w.heap.size) : Grps (w'.setCell ⟨g, k, none⟩ u') B B2 e (.slice (some ⟨g, 0, none⟩) n cap) (vs.set k u') (Ls.set k l') := by
  have hgl : B ≤ g ∧ g < w.heap.size := h.lt rfl
  have hout : w'.ownsRow B e 1 (.slice (some ⟨g, 0, none⟩) n cap) vs.length vs := by
    refine World.ownsRow.kept h.out hg ?_
    rcases h.far k hk with e1 | e1
    · rw [e1]; exact .inr (by simp [Value.ownBlock])
    · exact .inr (fun e2 => e1 e2.symm)
  have hnn : n = vs.length := by
    rcases h.out.2 with ⟨e1, _⟩ | ⟨g', cap', cur, e1, _⟩
    · cases e1
    · injection e1
  subst hnn
  have hnew : ∀ (x : Value) (lx : List Nat), OwnZ w B2 x lx → (x.ownBlock = none ∨ x.ownBlock ≠ vs[k].ownBlock) → (x.ownBlock = none ∨ x.ownBlock ≠ u'.ownBlock) := fun x lx hx hh => by
    rcases hh with hh | hh
    · exact .inl hh
    · rcases hat with e1 | e1
      · rw [e1]; exact .inr hh
      · rw [e1]
        cases hq : x.ownBlock with
        | none => exact .inl rfl
        | some m => refine .inr fun e2 => ?_
                    have := (hx.lt hq).2
                    injection e2 with e2
                    omega
  have hug : u'.ownBlock = none ∨ u'.ownBlock ≠ some g := by
    rcases hat with e1 | e1
    · rw [e1]; exact h.far k hk
    · rw [e1]
      refine .inr fun e2 => ?_
      injection e2 with e2
      omega
  have hset : ∀ (x : Value) (lx : List Nat), OwnZ w' B2 x lx → (x.ownBlock = none ∨ x.ownBlock ≠ some g) → OwnZ (w'.setCell ⟨g, k, none⟩ u') B2 x lx := fun x lx hx hh => hx.kept fun m hm => by
    refine Below.heap_setCell w' ⟨g, k, none⟩ u' m ?_
    rcases hh with hh | hh
    · rw [hm] at hh; cases hh
    · rw [hm] at hh
      intro e1
      exact hh (by rw [e1])
  refine ⟨by rw [List.length_set]; exact (hout.stored k u').1, by simp [h.len], fun j h1 h2 => ?_, fun j m h1 h2 hne => ?_, fun j h1 => ?_⟩
  · rw [List.length_set] at h1 h2
    rw [List.getElem_set, List.getElem_set]
    by_cases hj : k = j
    · rw [if_pos hj, if_pos hj]; exact hset _ _ hO hug
    · rw [if_neg hj, if_neg hj]
      exact hset _ _ ((h.own j h1 h2).grown hg (h.apart j k h1 hk (Ne.symm hj))) (h.far j h1)
  · rw [List.length_set] at h1 h2
    rw [List.getElem_set, List.getElem_set]
    by_cases hj : k = j
    · rw [if_pos hj, if_neg (by omega)]
      rcases hnew _ _ (h.own m h2 (h.len ▸ h2)) (h.apart m k h2 hk (by omega)) with e1 | e1
      · cases hq : u'.ownBlock with
        | none => exact .inl rfl
        | some x => rw [e1]; exact .inr (by simp)
      · exact .inr (fun e2 => e1 e2.symm)
    · rw [if_neg hj]
      by_cases hm : k = m
      · rw [if_pos hm]; exact hnew _ _ (h.own j h1 (h.len ▸ h1)) (h.apart j k h1 hk (Ne.symm hj))
      · rw [if_neg hm]; exact h.apart j m h1 h2 hne
  · rw [List.length_set] at h1
    rw [List.getElem_set]
    by_cases hj : k = j
    · rw [if_pos hj]; exact hug
    · rw [if_neg hj]; exact h.far j h1
theorem Grps.zls {w : World} {B B2 : Nat} {e : TypeId} {v : Value} {vs : List Value} {Ls : List (List Nat)} (h : Grps w B B2 e v vs Ls) : Zls w v Ls := by
 rcases h.out.2 with ⟨rfl, h2⟩ | ⟨g, cap, cur, rfl, hg, hh, h1, h2, _, r⟩
 ·obtain rfl : Ls = [] := List.eq_nil_of_length_eq_zero (by rw [← h.len]; exact h2)
  exact Zls.nil w
 ·refine ⟨_, cap, by rw [h.len], by rw [← h.len]; exact h1, by unfold maxLen at h2; omega, fun _ => ⟨g, 0, rfl, (Array.getElem?_eq_some_iff.1 hh).1, fun j hj => ?_⟩⟩
  have hj' : j < vs.length := by rw [h.len]; exact hj
  refine ⟨vs[j], ?_, (h.own j hj' hj).zs⟩
  rw [Nat.zero_add, World.ownsRow.cellAt (cap := cap) ⟨h.out.1, h.out.2⟩ j (by omega)]
  simp [hj']
end Go.Proofs.Ytjdgjhaggpahkaa
