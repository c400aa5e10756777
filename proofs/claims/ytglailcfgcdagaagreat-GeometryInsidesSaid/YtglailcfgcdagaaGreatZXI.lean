/- Geometry: slices.Index, slices.Equal, slices.Clone at points. Conditions: none beyond the sizes. -/
import Derived.Test.YtglailcfgcdagaaGreatZGH
import Derived.WalkSpells
set_option linter.unusedVariables false
set_option linter.unusedSimpArgs false
namespace Go.Proofs.YtglailcfgcdagaaGreat
open Go.RowKit Big
theorem idx_at {p : Int × Int} : ∀ {l : List (Int × Int)} {i : Nat} (hi : i < l.length) (h : l[i] = p) (hn : ∀ j (h1 : j < l.length), j < i → l[j] ≠ p), l.idxOf p = i
 | [], i, hi, _, _ => by simp at hi
 | a :: l, 0, _, h, _ => by
  have h : a = p := h
  subst h
  exact List.idxOf_cons_self
 | a :: l, i + 1, hi, h, hn => by
  have ha : a ≠ p := hn 0 (by simp) (by omega)
  have ih := idx_at (p := p) (l := l) (i := i) (by simpa using hi) h fun j h1 h2 => hn (j + 1) (by simpa using h1) (by omega)
  rw [List.idxOf_cons, ih]
  have hb : (a == p) = false := beq_eq_false_iff_ne.2 ha
  first | (rw [hb]; rfl) | (rw [hb]; simp) | simp [hb]
set_option maxRecDepth 100000 in
set_option maxHeartbeats 2000000 in
theorem SIndex_g (l : List (Int × Int)) (A : Option Addr) (c : Nat) (p : Int × Int) (hp : p ∈ l) {w : World} (hl : Pb w A c l) :
  Calls Tryz.prog 20 #[.slice A l.length c, .agg #[.int .i64 p.1, .int .i64 p.2]] w (RetI w (l.idxOf p : Nat)) := by
 obtain ⟨n, hn⟩ : ∃ n, l.length = n := ⟨_, rfl⟩
 have hM := hid fun (j : Nat) (hj : j < n) (W : World) (hb : Below w.heap.size w W) => (hl.below hb).at_ (k := j) (by omega)
 have c1 := Nat.le_trans hl.cap hl.max
 rw [hn] at c1 ⊢
 have hF := hid fun (j : Nat) (h1 : j < l.length) (h : l[j] = p) (hn : ∀ k (h1 : k < l.length), k < j → l[k] ≠ p) => idx_at h1 h hn
 have hE : ¬ ∀ j (h1 : j < l.length), j < n → l[j] ≠ p := fun h => by
  obtain ⟨j, hj, e⟩ := List.getElem_of_mem hp
  exact h j hj (by omega) e
 replace hE := hid hE
 replace hn := hid hn
 generalize l.idxOf p = R at *
 clear hl hp
 obtain ⟨p0, p1⟩ := p
 dsimp only
 go_enter Tryz.func20, Tryz.ntmps20
 go_upto_region 1 with fail
 refine enterR (P := fun u => Code.wp _ _ _ _ u) (c := [.int .i64 p0, .int .i64 p1]) ?_
 intro u HB r1 zn hsz
 have f0 := r1 0 _ rfl
 have f1 := r1 1 _ rfl
 simp only [Nat.zero_add] at f0 f1
 clear r1 zn hsz
 go_wp2
 go_loopw [8, 5] (fun s8 s5 wr => ∃ i : Nat, s8 = .int .i64 i ∧ i ≤ n ∧ Hid (∀ j (h1 : j < l.length), j < i → l[j] ≠ (p0, p1)) ∧ Below w.heap.size w wr ∧ wr.cell? ⟨w.heap.size, 0, none⟩ = some (.int .i64 p0) ∧ wr.cell? ⟨w.heap.size, 1, none⟩ = some (.int .i64 p1)) (fun s8 _ _ => n - (intOf s8).toNat)
 case atStart => exact ⟨0, rfl, by omega, fun j _ h => by omega, HB, f0, f1⟩
 case round =>
  clear HB f0 f1
  obtain ⟨i, rfl, hi, hA, hB, g0, g1⟩ := hrel
  by_cases hin : i < n
  ·have hii : (i : Int) < (n : Int) := by omega
   have hil : i < l.length := by have := hn.out; omega
   obtain ⟨b, o, hA1, e0, e1⟩ := hM.out i hin wr hB
   have hFi := hid fun (h : l[i] = (p0, p1)) => hF.out i hil h hA.out
   have hAi := hid fun (h : l[i] ≠ (p0, p1)) (j : Nat) (h1 : j < l.length) (hji : j < i + 1) => (show l[j] ≠ (p0, p1) by
    by_cases e : j = i
    ·subst e; exact h
    ·exact hA.out j h1 (by omega))
   generalize l[i] = q at *
   obtain ⟨q0, q1⟩ := q
   dsimp only at e0 e1
   subst hA1
   have G := hid (And.intro g0 g1)
   clear hM hF hA hn hE
   by_cases z0 : p0 = q0
   ·by_cases z1 : p1 = q1
    ·subst z0 z1
     obtain rfl := hFi.out rfl
     clear hFi hAi
     go_wp2_with fail
     go_quiet (fail)
     have hv : Below wr.heap.size wr (wr.drewN nq) := below_drewN (Below.refl _ _) _
     generalize hvq : wr.drewN nq = v3 at hv ⊢
     clear hvq
     have hBv := bel_step hB hv
     clear hv hB e0 e1 g0 g1
     go_wp2
     go_ret
     exact ⟨rfl, hBv⟩
    ·subst z0
     have hA3 := hid (hAi.out (fun h => z1 (by injection h with _ h; exact h.symm)))
     clear hAi hFi
     go_wp2_with fail
     go_quiet (fail)
     have hv : Below wr.heap.size wr (wr.drewN nq) := below_drewN (Below.refl _ _) _
     generalize hvq : wr.drewN nq = v3 at hv ⊢
     clear hvq
     have hBv := bel_step hB hv
     have g0' := keep_cell hv G.out.1
     have g1' := keep_cell hv G.out.2
     clear hv hB e0 e1 g0 g1
     go_wp2
     go_roundw
     case rel => exact ⟨i + 1, by go_num, by omega, hA3, hBv, g0', g1'⟩
     case measure => simp [intOf]; omega
   ·have hA3 := hid (hAi.out (fun h => z0 (by injection h with h _; exact h.symm)))
    clear hAi hFi
    go_wp2_with fail
    go_quiet (fail)
    have hv : Below wr.heap.size wr (wr.drewN nq) := below_drewN (Below.refl _ _) _
    generalize hvq : wr.drewN nq = v3 at hv ⊢
    clear hvq
    have hBv := bel_step hB hv
    have g0' := keep_cell hv G.out.1
    have g1' := keep_cell hv G.out.2
    clear hv hB e0 e1 g0 g1
    go_wp2
    go_roundw
    case rel => exact ⟨i + 1, by go_num, by omega, hA3, hBv, g0', g1'⟩
    case measure => simp [intOf]; omega
  ·obtain rfl : i = n := by omega
   exact absurd hA.out hE.out
set_option maxRecDepth 100000 in
set_option maxHeartbeats 2000000 in
theorem SEqual_g (l m : List (Int × Int)) (A B : Option Addr) (c d : Nat) {w : World} (hl : Pb w A c l) (hm : Pb w B d m) :
  Calls Tryz.prog 21 #[.slice A l.length c, .slice B m.length d] w (RetB w (decide (l = m))) := by
 obtain ⟨t, ht⟩ : ∃ t, decide (l = m) = t := ⟨_, rfl⟩
 rw [ht]
 obtain ⟨n, hn⟩ : ∃ n, l.length = n := ⟨_, rfl⟩
 obtain ⟨k, hk⟩ : ∃ k, m.length = k := ⟨_, rfl⟩
 have hM := hid fun (j : Nat) (hj : j < n) (W : World) (hb : Below w.heap.size w W) => (hl.below hb).at_ (k := j) (by omega)
 have hK := hid fun (j : Nat) (hj : j < k) (W : World) (hb : Below w.heap.size w W) => (hm.below hb).at_ (k := j) (by omega)
 have c1 := Nat.le_trans hl.cap hl.max
 have c2 := Nat.le_trans hm.cap hm.max
 rw [hn] at c1 ⊢
 rw [hk] at c2 ⊢
 have hF := hid fun (j : Nat) (h1 : j < l.length) (h2 : j < m.length) (h : ¬ l[j] = m[j]) => (show t = false by
  rw [← ht, decide_eq_false]; intro e; subst e; exact h rfl)
 have hE := hid fun (h : n ≠ k) => (show t = false by rw [← ht, decide_eq_false]; intro e; exact h (by rw [← hn, ← hk, e]))
 have hT := hid fun (h : ∀ j (h1 : j < l.length) (h2 : j < m.length), l[j] = m[j]) (hnk : n = k) => (show t = true by
  rw [← ht, decide_eq_true]; exact List.ext_getElem (by omega) h)
 replace hn := hid hn
 replace hk := hid hk
 clear hl hm ht
 go_enter Tryz.func21, Tryz.ntmps21
 by_cases hnk : n = k
 ·have hnki : (n : Int) = (k : Int) := by omega
  subst hnk
  clear hE
  go_wp2
  go_loopw [13, 5] (fun s13 s5 wr => ∃ i : Nat, s13 = .int .i64 i ∧ i ≤ n ∧ Hid (∀ j (h1 : j < l.length) (h2 : j < m.length), j < i → l[j] = m[j]) ∧ Below w.heap.size w wr) (fun s13 _ _ => n - (intOf s13).toNat)
  case atStart => exact ⟨0, rfl, by omega, fun j _ _ h => by omega, Below.refl _ _⟩
  case round =>
   obtain ⟨i, rfl, hi, hA, hB⟩ := hrel
   by_cases hin : i < n
   ·have hii : (i : Int) < (n : Int) := by omega
    have hil : i < l.length := by have := hn.out; omega
    have hik : i < m.length := by have := hk.out; omega
    obtain ⟨b, o, hA1, e0, e1⟩ := hM.out i hin wr hB
    obtain ⟨b', o', hA2, g0, g1⟩ := hK.out i hin wr hB
    have hFi := hid (hF.out i hil hik)
    have hAi := hid fun (h : l[i] = m[i]) (j : Nat) (h1 : j < l.length) (h2 : j < m.length) (hji : j < i + 1) => (show l[j] = m[j] by
     by_cases e : j = i
     ·subst e; exact h
     ·exact hA.out j h1 h2 (by omega))
    generalize l[i] = p at *
    generalize m[i] = q at *
    obtain ⟨p0, p1⟩ := p
    obtain ⟨q0, q1⟩ := q
    dsimp only at e0 e1 g0 g1
    subst hA1 hA2
    clear hM hK hF hT hA hn hk
    by_cases z0 : p0 = q0
    ·subst z0
     by_cases z1 : p1 = q1
     ·subst z1
      have hA3 := hid (hAi.out rfl)
      clear hAi hFi
      go_wp2_with fail
      go_quiet (fail)
      have hv : Below wr.heap.size wr (wr.drewN nq) := below_drewN (Below.refl _ _) _
      generalize hvq : wr.drewN nq = v3 at hv ⊢
      clear hvq
      have hBv := bel_step hB hv
      clear hv hB e0 e1 g0 g1
      go_wp2
      go_roundw
      case rel => exact ⟨i + 1, by go_num, by omega, hA3, hBv⟩
      case measure => simp [intOf]; omega
     ·obtain rfl := hFi.out (fun h => z1 (by injection h))
      clear hAi hFi
      go_wp2_with fail
      go_quiet (fail)
      have hv : Below wr.heap.size wr (wr.drewN nq) := below_drewN (Below.refl _ _) _
      generalize hvq : wr.drewN nq = v3 at hv ⊢
      clear hvq
      have hBv := bel_step hB hv
      clear hv hB e0 e1 g0 g1
      go_wp2
      go_ret
      exact ⟨rfl, hBv⟩
    ·obtain rfl := hFi.out (fun h => z0 (by injection h))
     clear hAi hFi
     go_wp2_with fail
     go_quiet (fail)
     have hv : Below wr.heap.size wr (wr.drewN nq) := below_drewN (Below.refl _ _) _
     generalize hvq : wr.drewN nq = v3 at hv ⊢
     clear hvq
     have hBv := bel_step hB hv
     clear hv hB e0 e1 g0 g1
     go_wp2
     go_ret
     exact ⟨rfl, hBv⟩
   ·obtain rfl : i = n := by omega
    obtain rfl := hT.out (fun j h1 h2 => hA.out j h1 h2 (by have := hn.out; omega)) (by first | rfl | trivial)
    have hii : ¬ (i : Int) < (i : Int) := by omega
    clear hM hK hF hT hA hn hk
    go_wp2
    go_ret
    exact ⟨rfl, hB⟩
 ·have hnki : ¬ (n : Int) = (k : Int) := by omega
  obtain rfl := hE.out hnk
  clear hM hK hF hE hT
  go_wp2
  go_ret
  exact ⟨rfl, Below.refl _ _⟩
theorem OwnP.made0 {w : World} {base : Nat} (h : base ≤ w.heap.size) : OwnP (w.alloc (.cells #[] 24)) base (.slice (some ⟨w.heap.size, 0, none⟩) 0 0) [] :=
 ⟨rfl, .inr ⟨w.heap.size, 0, _, rfl, h, heap_alloc_new w _, by simp, by unfold maxLen; omega, rfl, rfl⟩⟩
theorem run_appE {w : World} (ty : TypeId) (base : Nat) (v : Value) (l : List (Int × Int)) (hown : OwnP w base v l) (b o c : Nat) (m : List (Int × Int)) (hm : Pb w (some ⟨b, o, none⟩) c m) (hn : l.length + m.length ≤ 1000000) (hbase : base ≤ w.heap.size) :
  ∃ v' w', (Builtin.append_ #[22, 22] ty #[v, .slice (some ⟨b, o, none⟩) m.length c]).run Tryz.prog w = .ok v' w' ∧ OwnP w' base v' (l ++ m) ∧ w.grownBy w' v.ownBlock := by
 obtain ⟨i, hi, hzz⟩ := Option.map_eq_some_iff.1 infoPt
 simp only [Prod.mk.injEq] at hzz
 obtain ⟨hz, hs2, hb⟩ := hzz
 have hr := hm.range
 obtain ⟨v', w', hrun, h2, h3, _, _⟩ := run_append_own_at (P := Tryz.prog) w base 22 ty 24 i _ 2 16 Tryz.underlying22 hi hz hs2 hb rfl (by omega) v l.length (cellsP l) hown ⟨b, o, none⟩ m.length c (cellsP m) (cellsP_len m) (fun j u hu => by have := hr j u hu; rwa [← Addr.add_mid] at this) (one_cellsP m) (by unfold maxLen; omega) (by omega) hbase
 exact ⟨v', w', hrun, by unfold OwnP; rw [List.length_append, cellsP_app]; exact h2, h3⟩
theorem wpList_appE {w : World} {ops : Array Oper} {rest : List Oper} {o : Oper} {a : Act} {Q : Exit → Act → World → Prop} (hgd : o.guard = none) (s x : Operand)
  (ho : o.op = .call { callee := .builtin .append, args := #[s, x], argTypes := #[22, 22] })
  (base : Nat) (v : Value) (l : List (Int × Int)) (hs : a.eval s = v) (hown : OwnP w base v l) (b q n c : Nat) (m : List (Int × Int)) (hx : a.eval x = .slice (some ⟨b, q, none⟩) n c) (hmn : m.length = n) (hm : Pb w (some ⟨b, q, none⟩) c m) (hn : l.length + m.length ≤ 1000000) (hbase : base ≤ w.heap.size)
  (h : ∀ v' w', OwnP w' base v' (l ++ m) → w.grownBy w' v.ownBlock → wpList Tryz.prog ops Q rest (a.put o.dst v') w') : wpList Tryz.prog ops Q (o :: rest) a w := by
 refine wpList_plain hgd fun _ hK => ?_
 subst hmn
 obtain ⟨v', w', hrun, h2, h3⟩ := run_appE o.type base v l hown b q c m hm hn hbase
 unfold Oper.wp execOp
 simp only [ho, resolve, invoke, builtin, Sem.run_bind, Sem.run_pure, Result.andThen_ok, List.map_toArray, List.map_cons, List.map_nil, hs, hx, hrun]
 exact hK _ _ (h v' w' h2 h3)
theorem step_appE {w : World} {ops : Array Oper} {o : Oper} {a : Act} {K : Act → World → Prop} {Q : Exit → Act → World → Prop} {E : Prop} (hgd : o.guard = none) (s x : Operand)
  (ho : o.op = .call { callee := .builtin .append, args := #[s, x], argTypes := #[22, 22] })
  (base : Nat) (v : Value) (l : List (Int × Int)) (hs : a.eval s = v) (hown : OwnP w base v l) (b q n c : Nat) (m : List (Int × Int)) (hx : a.eval x = .slice (some ⟨b, q, none⟩) n c) (hmn : m.length = n) (hm : Pb w (some ⟨b, q, none⟩) c m) (hn : l.length + m.length ≤ 1000000) (hbase : base ≤ w.heap.size)
  (h : ∀ v' w', OwnP w' base v' (l ++ m) → w.grownBy w' v.ownBlock → K (a.put o.dst v') w') :
  if Region.wanted o (yielded ops a.tmps) = true then Oper.wp Tryz.prog o a w K Q else E := by
 have hw : Region.wanted o (yielded ops a.tmps) = true := by simp [Region.wanted, hgd]
 rw [if_pos hw]
 subst hmn
 obtain ⟨v', w', hrun, h2, h3⟩ := run_appE o.type base v l hown b q c m hm hn hbase
 unfold Oper.wp execOp
 simp only [ho, resolve, invoke, builtin, Sem.run_bind, Sem.run_pure, Result.andThen_ok, List.map_toArray, List.map_cons, List.map_nil, hs, hx, hrun]
 exact h v' w' h2 h3
set_option maxRecDepth 100000 in
set_option maxHeartbeats 2000000 in
theorem SClone_g (l : List (Int × Int)) (b o c : Nat) {w : World} (hl : Pb w (some ⟨b, o, none⟩) c l) (hln : l.length ≤ 4096) :
  Calls Tryz.prog 22 #[.slice (some ⟨b, o, none⟩) l.length c] w (RetR w l) := by
 obtain ⟨n, hn⟩ : ∃ n, l.length = n := ⟨_, rfl⟩
 have hO := OwnP.made0 (w := w) (base := w.heap.size) (Nat.le_refl _)
 have hA : Below w.heap.size w (w.alloc (.cells #[] 24)) := (Below.refl _ _).alloc (Nat.le_refl _) _
 have hP := hl.below hA
 have hlen : ([] : List (Int × Int)).length + l.length ≤ 1000000 := by simp; omega
 rw [hn] at hln ⊢
 replace hn := hid hn
 clear hl
 have hnil := fun (W : World) => Go.Lib.run_eql_slice_nil (P := Tryz.prog) W 22 24 (some ⟨b, o, none⟩) n c 0 0 Tryz.underlying22
 go_enter Tryz.func22, Tryz.ntmps22
 go_wp2_with (at_builtin; refine wpList_appE rfl (.tmp 5) (.tmp 6) rfl w.heap.size _ [] rfl hO b o n c l rfl hn.out hP hlen (by simp) ?_; intro v5 w5 hO5 hgr)
 have hB5 := Below.grown hA hgr (by simp) (fun b e => (World.ownsRow.lt hO b e).1)
 clear hO hgr hP
 rw [List.nil_append] at hO5
 go_wp2
 go_ret
 exact ⟨_, rfl, hO5, hB5⟩
end Go.Proofs.YtglailcfgcdagaaGreat
/- Geometry: Inside of the package. Conditions: none. -/
namespace Go.Proofs.YtglailcfgcdagaaGreat
open Go.RowKit Big
/-- the list, beginning with the first corner of its hull -/
def fstH (l : List (Int × Int)) : Nat := l.idxOf ((hullP l).headD (0, 0))
def rotP (l : List (Int × Int)) : List (Int × Int) := l.drop (fstH l) ++ l.take (fstH l)
def sideI (l : List (Int × Int)) (p : Int × Int) (i : Nat) : Bool := decide (0 ≤ crsZ (l.getD i (0, 0)) (l.getD ((i + 1) % l.length) (0, 0)) p)
def insB (l : List (Int × Int)) (p : Int × Int) : Bool := (List.range l.length).all (sideI l p)
/-- what Inside answers -/
def insE (l : List (Int × Int)) (p : Int × Int) : Bool × Int :=
 if chkP l = 0 then (if chkP [p] = 0 then (if l.length < 3 then (false, 7) else if hullP l = rotP l then (insB l p, 0) else (false, 9)) else (false, chkP [p])) else (false, chkP l)
def RetBI (w : World) (q : Bool × Int) (e : Ending) (w' : World) : Prop := e = .returned (.tuple #[.bool q.1, .int .i64 q.2]) ∧ Below w.heap.size w w'
theorem Pb.drop {w : World} {b o c : Nat} {l : List (Int × Int)} (h : Pb w (some ⟨b, o, none⟩) c l) (f : Nat) (hf : f ≤ l.length) : Pb w (some ⟨b, o + f * 2, none⟩) (c - f) (l.drop f) :=
 ⟨by have := h.cap; simp; omega, by have := h.max; omega, fun h0 => by
  obtain ⟨b', o', e, h1, h2⟩ := h.rd (by simp at h0; omega)
  cases e
  refine ⟨b, o + f * 2, rfl, h1, fun j hj => ?_⟩
  have := h2 (f + j) (by simp at hj; omega)
  rw [List.getElem_drop, show o + f * 2 + j * 2 = o + (f + j) * 2 by omega]
  exact this⟩
theorem Pb.taken {w : World} {A : Option Addr} {c : Nat} {l : List (Int × Int)} (h : Pb w A c l) (f : Nat) : Pb w A c (l.take f) :=
 Pb.take (m := l.drop f) (by rw [List.take_append_drop]; exact h)
theorem Pb.newL' (u : World) (t : TypeId) (p : Int × Int) : Pb (u.alloc (.cells #[.int .i64 p.1, .int .i64 p.2] t)) (some ⟨u.heap.size, 0, none⟩) 1 [p] :=
 ⟨Nat.le_refl _, by omega, fun h => ⟨u.heap.size, 0, rfl, by simp, fun j hj => by
  obtain rfl : j = 0 := by simpa using hj
  exact ⟨at_alloc0 rfl, at_alloc1 rfl⟩⟩⟩
theorem hull_first {l : List (Int × Int)} (h0 : l ≠ []) : ∃ f t, hullP l = f :: t ∧ f ∈ l ∧ fstH l < l.length ∧ fstH l = l.idxOf f := by
 have h1 := hullP_ne h0
 cases he : hullP l with
 | nil => exact absurd he h1
 | cons f t =>
  have hf : f ∈ l := hullP_sub h0 f (by rw [he]; simp)
  have e : fstH l = l.idxOf f := by unfold fstH; rw [he]; rfl
  exact ⟨f, t, rfl, hf, by rw [e]; exact List.idxOf_lt_length_iff.2 hf, e⟩
set_option maxRecDepth 100000 in
set_option maxHeartbeats 8000000 in
theorem GInside_g (l : List (Int × Int)) (A : Option Addr) (c : Nat) (p : Int × Int) {w : World} (hl : Pb w A c l) :
  Calls Tryz.prog 5 #[.slice A l.length c, .agg #[.int .i64 p.1, .int .i64 p.2]] w (RetBI w (insE l p)) := by
 obtain ⟨n, hn⟩ : ∃ n, l.length = n := ⟨_, rfl⟩
 obtain ⟨k, hk⟩ : ∃ k, chkP l = k := ⟨_, rfl⟩
 obtain ⟨k2, hk2⟩ : ∃ k, chkP [p] = k := ⟨_, rfl⟩
 have HK := hid fun (W : World) (hb : Below w.heap.size w W) => (show Calls Tryz.prog 18 #[.slice A n c] W (RetI W k) from by rw [← hk, ← hn]; exact Gcheck_g l A c (hl.below hb))
 have HK2 := hid fun (W : World) (t : TypeId) => (show Calls Tryz.prog 18 #[.slice (some ⟨W.heap.size, 0, none⟩) 1 1] (W.alloc (.cells #[.int .i64 p.1, .int .i64 p.2] t)) (RetI (W.alloc (.cells #[.int .i64 p.1, .int .i64 p.2] t)) k2) from by
  rw [← hk2]; exact Gcheck_g [p] _ _ (Pb.newL' W t p))
 have E1 := hid fun (h : k ≠ 0) => (show insE l p = (false, k) by rw [← hk] at h ⊢; unfold insE; rw [if_neg h])
 have E2 := hid fun (h : k = 0) (h2 : k2 ≠ 0) => (show insE l p = (false, k2) by rw [← hk2] at h2 ⊢; unfold insE; rw [if_pos (hk.trans h), if_neg h2])
 have E3 := hid fun (h : k = 0) (h2 : k2 = 0) (h3 : n < 3) => (show insE l p = (false, 7) by unfold insE; rw [if_pos (hk.trans h), if_pos (hk2.trans h2), if_pos (by omega)])
 have E4 := hid fun (h : k = 0) (h2 : k2 = 0) (h3 : ¬ n < 3) (h4 : ¬ hullP l = rotP l) => (show insE l p = (false, 9) by unfold insE; rw [if_pos (hk.trans h), if_pos (hk2.trans h2), if_neg (by omega), if_neg h4])
 have E5 := hid fun (h : k = 0) (h2 : k2 = 0) (h3 : ¬ n < 3) (h4 : hullP l = rotP l) => (show insE l p = (insB l p, 0) by unfold insE; rw [if_pos (hk.trans h), if_pos (hk2.trans h2), if_neg (by omega), if_pos h4])
 have HL := hid hl
 have hcp := Nat.le_trans hl.cap hl.max
 have hcc := hl.cap
 rw [hn] at hcp hcc ⊢
 have hc2 := hl.max
 have hC := hid (And.intro hk (And.intro hk2 hn))
 generalize insE l p = E at *
 clear hl hk hk2
 obtain ⟨x, y⟩ := p
 dsimp only at HK2 ⊢
 replace hn := hid hn
 go_enter Tryz.func5, Tryz.ntmps5
 go_upto_region 1 with fail
 refine enterR (P := fun u => Code.wp _ _ _ _ u) (c := [.int .i64 x, .int .i64 y]) ?_
 intro u HB r1 zn hsz
 have p0 := r1 0 _ rfl
 have p1 := r1 1 _ rfl
 simp only [Nat.zero_add] at p0 p1
 clear r1 zn hsz
 go_wp2_with fail
 refine (HK.out _ HB).mono ?_
 rintro e w1 ⟨rfl, hv⟩
 replace HB := bel_step HB hv
 have p0 := keep_cell hv p0
 have p1 := keep_cell hv p1
 clear hv HK
 by_cases hk0 : k = 0
 ·go_wp2_with fail
  refine (HK2.out _ _).mono ?_
  rintro e w2 ⟨rfl, hv⟩
  have hv := bel_step ((Below.refl w1.heap.size w1).alloc (Nat.le_refl _) _) hv
  replace HB := bel_step HB hv
  have p0 := keep_cell hv p0
  have p1 := keep_cell hv p1
  clear hv HK2
  by_cases hk3 : k2 = 0
  ·by_cases h3 : n < 3
   ·have h3i : (n : Int) < 3 := by omega
    obtain rfl := E3.out hk0 hk3 h3
    subst hk0 hk3
    clear E1 E2 E3 E4 E5 hC
    clear p0 p1
    go_wp2
    refine bodyPost_ret (v := .tuple #[.bool false, .int .i64 (7)]) ?_ rfl ?_
    ·simp [results, Tryz.results5, go_sem]
    ·exact ⟨rfl, HB⟩
   ·have h3i : ¬ (n : Int) < 3 := by omega
    have E6 := hid (E4.out hk0 hk3 h3)
    have E7 := hid (E5.out hk0 hk3 h3)
    obtain ⟨g1, g2⟩ := chkP_zero (hC.out.1.trans hk0)
    obtain ⟨_, g3⟩ := chkP_zero (hC.out.2.1.trans hk3)
    have g3 := hid (g3 _ (List.mem_singleton_self _))
    have hne : l ≠ [] := fun e => by subst e; have := hn.out; simp at this; omega
    obtain ⟨f, t, hh, hfm, hfl, hfe⟩ := hull_first hne
    have hn4 : n ≤ 4096 := by have := hn.out; omega
    obtain ⟨b, o, hAA, hlt0, _⟩ := HL.out.rd (by have := hn.out; omega)
    subst hAA
    have HH := hid fun (W : World) (hb : Below w.heap.size w W) => (show Calls Tryz.prog 19 #[.slice (some ⟨b, o, none⟩) n c] W (RetR W (f :: t)) from by
     rw [← hn.out, ← hh]; exact Ghull_g l _ c (HL.out.below hb) g1 hne g2)
    obtain ⟨i0, hi0⟩ : ∃ i, fstH l = i := ⟨_, rfl⟩
    have HX := hid fun (W : World) (hb : Below w.heap.size w W) => (show Calls Tryz.prog 20 #[.slice (some ⟨b, o, none⟩) n c, .agg #[.int .i64 f.1, .int .i64 f.2]] W (RetI W (i0 : Nat)) from by
     rw [← hi0, hfe, ← hn.out]; exact SIndex_g l _ c f hfm (HL.out.below hb))
    rw [hi0] at hfl
    have hin : i0 < n := by have := hn.out; omega
    have hrot := hid (show rotP l = l.drop i0 ++ l.take i0 by unfold rotP; rw [hi0])
    rw [hh] at E6 E7
    rw [hrot.out] at E6 E7
    have hg2 := hid g2
    clear E1 E2 E3 E4 E5 hC hh hfm hfl hfe hi0 g1 g2 hrot hlt0
    subst hk0 hk3
    go_wp2_with fail
    refine (HH.out _ HB).mono ?_
    rintro e w3 ⟨v3, rfl, hO3, hv⟩
    replace HB := bel_step HB hv
    have p0 := keep_cell hv p0
    have p1 := keep_cell hv p1
    clear hv HH
    obtain ⟨A3, c3, rfl, P3, hg3⟩ := OwnP.form hO3
    obtain ⟨gh, rfl, _⟩ := hg3 (by simp)
    obtain ⟨b', o', e', _, hcs⟩ := P3.rd (by simp)
    cases e'
    have z0 := (hcs 0 (by simp)).1
    have z1 := (hcs 0 (by simp)).2
    simp only [List.getElem_cons_zero, Nat.zero_add, Nat.zero_mul] at z0 z1
    have hnh : (f :: t).length = t.length + 1 := rfl
    rw [hnh]
    obtain ⟨nt, hnt⟩ : ∃ q, t.length + 1 = q := ⟨_, rfl⟩
    rw [hnt]
    have hntp : (0 : Int) < (nt : Int) := by omega
    have P3H := hid (And.intro P3 (hnh.trans hnt))
    clear hO3 hg3 hcs hnh hnt P3
    obtain ⟨fx, fy⟩ := f
    dsimp only at z0 z1 HX
    go_wp2_with fail
    refine (HX.out _ HB).mono ?_
    rintro e w4 ⟨rfl, hv⟩
    replace P3H := hid (And.intro (P3H.out.1.below hv) P3H.out.2)
    replace HB := bel_step HB hv
    have p0 := keep_cell hv p0
    have p1 := keep_cell hv p1
    clear hv HX z0 z1
    go_upto_region 11 with fail
    have hll := hn.out
    have HCl := hid fun (W : World) (hb : Below w.heap.size w W) => (show Calls Tryz.prog 22 #[.slice (some ⟨b, o + i0 * 2, none⟩) (n - i0) (c - i0)] W (RetR W (l.drop i0)) from by
     have := SClone_g (l.drop i0) b (o + i0 * 2) (c - i0) ((HL.out.below hb).drop i0 (by omega)) (by simp; omega)
     rwa [List.length_drop, hll] at this)
    have HTk := hid fun (W : World) (hb : Below w.heap.size w W) => (HL.out.below hb).taken i0
    have htl : (l.take i0).length = i0 := by simp; omega
    have hrl : (l.drop i0 ++ l.take i0).length = n := by simp; omega
    have hlen : (l.drop i0).length + (l.take i0).length ≤ 1000000 := by simp; omega
    obtain ⟨tq, htq⟩ : ∃ tq, decide ((fx, fy) :: t = l.drop i0 ++ l.take i0) = tq := ⟨_, rfl⟩
    have HEq := hid fun (W : World) (A6 : Option Addr) (c6 : Nat) (h3 : Pb W (some ⟨gh, 0, none⟩) c3 ((fx, fy) :: t)) (h6 : Pb W A6 c6 (l.drop i0 ++ l.take i0)) => (show Calls Tryz.prog 21 #[.slice (some ⟨gh, 0, none⟩) nt c3, .slice A6 n c6] W (RetB W tq) from by
     have := SEqual_g ((fx, fy) :: t) (l.drop i0 ++ l.take i0) _ _ c3 c6 h3 h6
     rw [P3H.out.2, hrl, htq] at this
     exact this)
    have E6 := hid fun (h : tq = false) => E6.out (by rw [← htq] at h; exact of_decide_eq_false h)
    have E7 := hid fun (h : tq = true) => E7.out (by rw [← htq] at h; exact of_decide_eq_true h)
    have hci : ¬ c = i0 := by omega
    have hi0i : (i0 : Int) ≤ (n : Int) := by omega
    have hi0c : (i0 : Int) ≤ (c : Int) := by omega
    have hi0w : IntKind.i64.wrap (i0 : Int) = (i0 : Int) := by rw [IntKind.wrap_i64]; omega
    clear htq hll
    replace hrl := hid hrl
    replace htl := hid htl
    go_region_held3 (fun w' => w'.cell? ⟨w.heap.size, 0, none⟩ = some (.int .i64 x) ∧ w'.cell? ⟨w.heap.size, 1, none⟩ = some (.int .i64 y)) (first | ((try dsimp only); repeat' (first | with_reducible assumption | apply And.intro | (with_reducible refine keep_alloc ?_) | (with_reducible refine keep_drew ?_) | (with_reducible refine keep_set (by omega) ?_) | (with_reducible refine keep_sets (by omega) ?_) | (with_reducible refine keep_cell (W := w4) ?_ ?_) | fail))) (first | (go_at_call 22; (with_reducible refine (HCl.out _ (bel_step HB BG)).mono ?_); rintro e v5 ⟨v5v, rfl, hO5, hq5⟩; have qv5 : Below w4.heap.size w4 v5 := bel_step BG hq5) | (refine step_appE rfl (.tmp 37) (.tmp 40) rfl w4.heap.size _ (l.drop i0) rfl ((OwnP.older (by simp) hO5).below BG) b o i0 c (l.take i0) rfl htl.out (HTk.out _ (bel_step HB BG)) hlen (by have := qv5.size; simp; omega) ?_; intro v6v w6 hO6 hgr; have qv6 : Below w4.heap.size w4 w6 := Below.grown (a := w4) BG hgr (by have := qv5.size; simp; omega) (fun b e => (World.ownsRow.lt (OwnP.older (base' := w4.heap.size) (by simp) hO5) b e).1); obtain ⟨A6, c6, hv6, P6, _⟩ := OwnP.form hO6; rw [hrl.out] at hv6; subst hv6) | (go_at_call 21; (with_reducible refine (HEq.out _ _ _ (P3H.out.1.below BG) (P6.below BG)).mono ?_); rintro e w7 ⟨rfl, hq7⟩; have qv7 : Below w4.heap.size w4 w7 := bel_step BG hq7))
    all_goals
     have p0 := keep_cell qv7 p0
     have p1 := keep_cell qv7 p1
     replace HB := bel_step HB qv7
     clear hq7 qv7 HEq HCl HTk P3H P6 hO6 hgr qv6 hO5 hq5 qv5 hlen hi0i hi0c hi0w hci htl hrl hin
     cases tq
     ·obtain rfl := E6.out (by first | rfl | trivial)
      clear E7
      clear p0 p1
      go_wp2
      refine bodyPost_ret (v := .tuple #[.bool false, .int .i64 (9)]) ?_ rfl ?_
      ·simp [results, Tryz.results5, go_sem]
      ·exact ⟨rfl, HB⟩
     ·obtain rfl := E7.out (by first | rfl | trivial)
      have hBt := hid fun (h : ∀ j, j < l.length → sideI l (x, y) j = true) => (show insB l (x, y) = true by
       unfold insB; rw [List.all_eq_true]; intro j hj; exact h j (List.mem_range.1 hj))
      have hBf := hid fun (j : Nat) (h1 : j < l.length) (h : sideI l (x, y) j = false) => (show insB l (x, y) = false by
       unfold insB
       cases hb : (List.range l.length).all (sideI l (x, y))
       ·rfl
       ·rw [List.all_eq_true] at hb
        have := hb j (List.mem_range.2 h1)
        rw [h] at this; cases this)
      generalize insB l (x, y) = R at *
      have hM := hid fun (j : Nat) (hj : j < n) (W : World) (hb : Below w.heap.size w W) => (HL.out.below hb).at_ (k := j) (by have := hn.out; omega)
      have hCx := hid fun (o a b : Int × Int) (ho : inP o = true) (ha : inP a = true) (hb : inP b = true) (W : World) => Gcross_g ho ha hb W
      have hI := hid fun (j : Nat) (hj : j < l.length) => hg2.out _ (List.getElem_mem hj)
      clear E6 E7 HL hg2
      go_wp2
      go_loopw [46, 10, 11] (fun s46 s10 s11 wr => ∃ i : Nat, s46 = .int .i64 i ∧ i ≤ n ∧ Hid (∀ j, j < i → sideI l (x, y) j = true) ∧ Below w.heap.size w wr ∧ wr.cell? ⟨w.heap.size, 0, none⟩ = some (.int .i64 x) ∧ wr.cell? ⟨w.heap.size, 1, none⟩ = some (.int .i64 y)) (fun s46 _ _ _ => n - (intOf s46).toNat)
      case atStart => exact ⟨0, rfl, by omega, fun j h => by omega, HB, p0, p1⟩
      case round =>
       clear HB p0 p1
       obtain ⟨i, rfl, hi, hA, HB, p0, p1⟩ := hrel
       by_cases hin2 : i < n
       ·skip
        have hii : (i : Int) < (n : Int) := by omega
        have hil : i < l.length := by have := hn.out; omega
        obtain ⟨k, hk⟩ : ∃ k, (i + 1) % n = k := ⟨_, rfl⟩
        have hkn : k < n := by rw [← hk]; exact Nat.mod_lt _ (by omega)
        have hkl : k < l.length := by have := hn.out; omega
        have hkm : Int.tmod ((i : Int) + 1) (n : Int) = (k : Int) := by rw [← hk]; rw [Int.tmod_eq_emod_of_nonneg (by omega)]; push_cast; rfl
        have hkw : IntKind.i64.wrap (k : Int) = (k : Int) := by rw [IntKind.wrap_i64]; omega
        have hki : (k : Int) < (n : Int) := by omega
        have hnz : ¬ (n : Int) = 0 := by omega
        have hnz2 : ¬ n = 0 := by omega
        have hnz3 : ((n : Int) == 0) = false := beq_eq_false_iff_ne.2 hnz
        have hiw : IntKind.i64.wrap ((i : Int) + 1) = (i : Int) + 1 := by rw [IntKind.wrap_i64]; omega
        have hiw2 := hiw
        obtain ⟨bb, oo, hA1, e0, e1⟩ := hM.out i hin2 wr HB
        cases hA1
        obtain ⟨bb, oo, hA2, g0, g1⟩ := hM.out k hkn wr HB
        cases hA2
        have hsi : sideI l (x, y) i = decide (0 ≤ crsZ l[i] l[k] (x, y)) := by
         unfold sideI
         rw [hn.out, hk]
         simp [hil, hkl]
        have hqi := hI.out i hil
        have hri := hI.out k hkl
        generalize l[i] = q at *
        generalize l[k] = r at *
        obtain ⟨z, hz⟩ : ∃ z, crsZ q r (x, y) = z := ⟨_, rfl⟩
        rw [hz] at hsi
        have HCr := hid fun (W : World) => (show Calls Tryz.prog 23 #[.agg #[.int .i64 q.1, .int .i64 q.2], .agg #[.int .i64 r.1, .int .i64 r.2], .agg #[.int .i64 x, .int .i64 y]] W (RetI W z) from by
         rw [← hz]; exact hCx.out _ _ _ hqi hri g3.out W)
        have hbad := hid fun (h : z < 0) => hBf.out i hil (by rw [hsi]; exact decide_eq_false (by omega))
        have hgood := hid fun (h : 0 ≤ z) (j : Nat) (hj : j < i + 1) => (show sideI l (x, y) j = true by
         by_cases e : j = i
         ·subst e; rw [hsi]; exact decide_eq_true h
         ·exact hA.out j (by omega))
        obtain ⟨q0, q1⟩ := q
        obtain ⟨r0, r1'⟩ := r
        dsimp only at e0 e1 g0 g1 HCr
        clear hBt hBf hM hCx hI hsi hqi hri hz hk
        clear hiw2
        go_upto_region 16 with fail
        refine enterR (P := fun u => Code.wp _ _ _ _ u) (c := [.int .i64 q0, .int .i64 q1]) ?_
        intro v2 hv r1 zn hsz
        have d0 := r1 0 _ rfl
        have d1 := r1 1 _ rfl
        simp only [Nat.zero_add] at d0 d1
        replace HB := bel_step HB hv
        have p0 := keep_cell hv p0
        have p1 := keep_cell hv p1
        have g0 := keep_cell hv g0
        have g1 := keep_cell hv g1
        clear hv r1 zn hsz e0 e1
        generalize wr.heap.size = gq at *
        go_region_held3 (fun w' => (w'.cell? ⟨gq, 0, none⟩ = some (.int .i64 q0) ∧ w'.cell? ⟨gq, 1, none⟩ = some (.int .i64 q1)) ∧ (w'.cell? ⟨b, o + k * 2, none⟩ = some (.int .i64 r0) ∧ w'.cell? ⟨b, o + k * 2 + 1, none⟩ = some (.int .i64 r1')) ∧ (w'.cell? ⟨w.heap.size, 0, none⟩ = some (.int .i64 x) ∧ w'.cell? ⟨w.heap.size, 1, none⟩ = some (.int .i64 y))) (first | ((try dsimp only); repeat' (first | with_reducible assumption | apply And.intro | (with_reducible refine keep_alloc ?_) | (with_reducible refine keep_drew ?_) | (with_reducible refine keep_set (by omega) ?_) | (with_reducible refine keep_sets (by omega) ?_) | (with_reducible refine keep_cell (W := v2) ?_ ?_) | fail))) ((go_at_call 23; (with_reducible refine (HCr.out _).mono ?_); rintro e v5 ⟨rfl, hq_⟩; have qy5 : Below v2.heap.size v2 v5 := bel_step BG hq_))
        all_goals
         have p0 := keep_cell qy5 p0
         have p1 := keep_cell qy5 p1
         replace HB := bel_step HB qy5
         clear qy5 HCr d0 d1 g0 g1
         by_cases hz0 : z < 0
         ·obtain rfl := hbad.out hz0
          clear hbad hgood hA
          clear p0 p1
          go_wp2
          refine bodyPost_ret (v := .tuple #[.bool false, .int .i64 0]) ?_ rfl ?_
          ·simp [results, Tryz.results5, go_sem]
          ·exact ⟨rfl, HB⟩
         ·have hA3 := hid (hgood.out (by omega))
          clear hbad hgood hA
          go_wp2
          go_roundw
          case rel => exact ⟨i + 1, by go_num, by omega, hA3, HB, p0, p1⟩
          case measure => simp [intOf]; omega
       ·obtain rfl : i = n := by omega
        obtain rfl := hBt.out (fun j hj => hA.out j (by have := hn.out; omega))
        have hii : ¬ (i : Int) < (i : Int) := by omega
        clear hBt hBf hM hCx hI hA p0 p1
        go_wp2
        refine bodyPost_ret (v := .tuple #[.bool true, .int .i64 0]) ?_ rfl ?_
        ·simp [results, Tryz.results5, go_sem]
        ·exact ⟨rfl, HB⟩
  ·obtain rfl := E2.out hk0 hk3
   subst hk0
   clear E1 E2 E3 E4 E5 hC
   clear p0 p1
   go_wp2
   refine bodyPost_ret (v := .tuple #[.bool false, .int .i64 (k2)]) ?_ rfl ?_
   ·simp [results, Tryz.results5, go_sem]
   ·exact ⟨rfl, HB⟩
 ·obtain rfl := E1.out hk0
  clear E1 E2 E3 E4 E5 hC HK2
  clear p0 p1
  go_wp2
  refine bodyPost_ret (v := .tuple #[.bool false, .int .i64 (k)]) ?_ rfl ?_
  ·simp [results, Tryz.results5, go_sem]
  ·exact ⟨rfl, HB⟩
end Go.Proofs.YtglailcfgcdagaaGreat
