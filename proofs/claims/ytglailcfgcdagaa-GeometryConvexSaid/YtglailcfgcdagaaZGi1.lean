/- Geometry: slices.Index, slices.Equal, slices.Clone at points. Conditions: none beyond the sizes. -/
import Derived.Test.YtglailcfgcdagaaZGH
import Derived.WalkSpells
set_option linter.unusedVariables false
set_option linter.unusedSimpArgs false
namespace Go.Proofs.Ytglailcfgcdagaa
open Go.RowKit Big
theorem idx_at {p : Int × Int} : ∀ {l : List (Int × Int)} {i : Nat} (hi : i < l.length) (h : l[i] = p) (hn : ∀ j (h1 : j < l.length), j < i → l[j] ≠ p), l.idxOf p = i
 | [], i, hi, _, _ => by simp at hi
 | a :: l, 0, _, h, _ => by
  have h : a = p := h
  subst h
  exact List.idxOf_cons_self
 | a :: l, i + 1, hi, h, hn => by
  have ha : a ≠ p := hn 0 (by simp) (by omega)
  have ih := idx_at (p := p) (l := l) (i := i) (by simpa using hi) h fun j h1 h2 => hn (j + 1) (by simpa using h1) (by omega)
  rw [List.idxOf_cons, ih]
  have hb : (a == p) = false := beq_eq_false_iff_ne.2 ha
  first | (rw [hb]; rfl) | (rw [hb]; simp) | simp [hb]
set_option maxRecDepth 100000 in
set_option maxHeartbeats 2000000 in
theorem SIndex_g (l : List (Int × Int)) (A : Option Addr) (c : Nat) (p : Int × Int) (hp : p ∈ l) {w : World} (hl : Pb w A c l) :
  Calls Try.prog 55 #[.slice A l.length c, .agg #[.int .i64 p.1, .int .i64 p.2]] w (RetI w (l.idxOf p : Nat)) := by
 obtain ⟨n, hn⟩ : ∃ n, l.length = n := ⟨_, rfl⟩
 have hM := hid fun (j : Nat) (hj : j < n) (W : World) (hb : Below w.heap.size w W) => (hl.below hb).at_ (k := j) (by omega)
 have c1 := Nat.le_trans hl.cap hl.max
 rw [hn] at c1 ⊢
 have hF := hid fun (j : Nat) (h1 : j < l.length) (h : l[j] = p) (hn : ∀ k (h1 : k < l.length), k < j → l[k] ≠ p) => idx_at h1 h hn
 have hE : ¬ ∀ j (h1 : j < l.length), j < n → l[j] ≠ p := fun h => by
  obtain ⟨j, hj, e⟩ := List.getElem_of_mem hp
  exact h j hj (by omega) e
 replace hE := hid hE
 replace hn := hid hn
 generalize l.idxOf p = R at *
 clear hl hp
 obtain ⟨p0, p1⟩ := p
 dsimp only
 go_enter Try.func55, Try.ntmps55
 go_upto_region 1 with fail
 refine enterR (P := fun u => Code.wp _ _ _ _ u) (c := [.int .i64 p0, .int .i64 p1]) ?_
 intro u HB r1 zn hsz
 have f0 := r1 0 _ rfl
 have f1 := r1 1 _ rfl
 simp only [Nat.zero_add] at f0 f1
 clear r1 zn hsz
 go_wp2
 go_loopw [8, 5] (fun s8 s5 wr => ∃ i : Nat, s8 = .int .i64 i ∧ i ≤ n ∧ Hid (∀ j (h1 : j < l.length), j < i → l[j] ≠ (p0, p1)) ∧ Below w.heap.size w wr ∧ wr.cell? ⟨w.heap.size, 0, none⟩ = some (.int .i64 p0) ∧ wr.cell? ⟨w.heap.size, 1, none⟩ = some (.int .i64 p1)) (fun s8 _ _ => n - (intOf s8).toNat)
 case atStart => exact ⟨0, rfl, by omega, fun j _ h => by omega, HB, f0, f1⟩
 case round =>
  clear HB f0 f1
  obtain ⟨i, rfl, hi, hA, hB, g0, g1⟩ := hrel
  by_cases hin : i < n
  ·have hii : (i : Int) < (n : Int) := by omega
   have hil : i < l.length := by have := hn.out; omega
   obtain ⟨b, o, hA1, e0, e1⟩ := hM.out i hin wr hB
   have hFi := hid fun (h : l[i] = (p0, p1)) => hF.out i hil h hA.out
   have hAi := hid fun (h : l[i] ≠ (p0, p1)) (j : Nat) (h1 : j < l.length) (hji : j < i + 1) => (show l[j] ≠ (p0, p1) by
    by_cases e : j = i
    ·subst e; exact h
    ·exact hA.out j h1 (by omega))
   generalize l[i] = q at *
   obtain ⟨q0, q1⟩ := q
   dsimp only at e0 e1
   subst hA1
   have G := hid (And.intro g0 g1)
   clear hM hF hA hn hE
   by_cases z0 : p0 = q0
   ·by_cases z1 : p1 = q1
    ·subst z0 z1
     obtain rfl := hFi.out rfl
     clear hFi hAi
     go_wp2_with fail
     go_quiet (fail)
     have hv : Below wr.heap.size wr (wr.drewN nq) := below_drewN (Below.refl _ _) _
     generalize hvq : wr.drewN nq = v3 at hv ⊢
     clear hvq
     have hBv := bel_step hB hv
     clear hv hB e0 e1 g0 g1
     go_wp2
     go_ret
     exact ⟨rfl, hBv⟩
    ·subst z0
     have hA3 := hid (hAi.out (fun h => z1 (by injection h with _ h; exact h.symm)))
     clear hAi hFi
     go_wp2_with fail
     go_quiet (fail)
     have hv : Below wr.heap.size wr (wr.drewN nq) := below_drewN (Below.refl _ _) _
     generalize hvq : wr.drewN nq = v3 at hv ⊢
     clear hvq
     have hBv := bel_step hB hv
     have g0' := keep_cell hv G.out.1
     have g1' := keep_cell hv G.out.2
     clear hv hB e0 e1 g0 g1
     go_wp2
     go_roundw
     case rel => exact ⟨i + 1, by go_num, by omega, hA3, hBv, g0', g1'⟩
     case measure => simp [intOf]; omega
   ·have hA3 := hid (hAi.out (fun h => z0 (by injection h with h _; exact h.symm)))
    clear hAi hFi
    go_wp2_with fail
    go_quiet (fail)
    have hv : Below wr.heap.size wr (wr.drewN nq) := below_drewN (Below.refl _ _) _
    generalize hvq : wr.drewN nq = v3 at hv ⊢
    clear hvq
    have hBv := bel_step hB hv
    have g0' := keep_cell hv G.out.1
    have g1' := keep_cell hv G.out.2
    clear hv hB e0 e1 g0 g1
    go_wp2
    go_roundw
    case rel => exact ⟨i + 1, by go_num, by omega, hA3, hBv, g0', g1'⟩
    case measure => simp [intOf]; omega
  ·obtain rfl : i = n := by omega
   exact absurd hA.out hE.out
set_option maxRecDepth 100000 in
set_option maxHeartbeats 2000000 in
theorem SEqual_g (l m : List (Int × Int)) (A B : Option Addr) (c d : Nat) {w : World} (hl : Pb w A c l) (hm : Pb w B d m) :
  Calls Try.prog 56 #[.slice A l.length c, .slice B m.length d] w (RetB w (decide (l = m))) := by
 obtain ⟨t, ht⟩ : ∃ t, decide (l = m) = t := ⟨_, rfl⟩
 rw [ht]
 obtain ⟨n, hn⟩ : ∃ n, l.length = n := ⟨_, rfl⟩
 obtain ⟨k, hk⟩ : ∃ k, m.length = k := ⟨_, rfl⟩
 have hM := hid fun (j : Nat) (hj : j < n) (W : World) (hb : Below w.heap.size w W) => (hl.below hb).at_ (k := j) (by omega)
 have hK := hid fun (j : Nat) (hj : j < k) (W : World) (hb : Below w.heap.size w W) => (hm.below hb).at_ (k := j) (by omega)
 have c1 := Nat.le_trans hl.cap hl.max
 have c2 := Nat.le_trans hm.cap hm.max
 rw [hn] at c1 ⊢
 rw [hk] at c2 ⊢
 have hF := hid fun (j : Nat) (h1 : j < l.length) (h2 : j < m.length) (h : ¬ l[j] = m[j]) => (show t = false by
  rw [← ht, decide_eq_false]; intro e; subst e; exact h rfl)
 have hE := hid fun (h : n ≠ k) => (show t = false by rw [← ht, decide_eq_false]; intro e; exact h (by rw [← hn, ← hk, e]))
 have hT := hid fun (h : ∀ j (h1 : j < l.length) (h2 : j < m.length), l[j] = m[j]) (hnk : n = k) => (show t = true by
  rw [← ht, decide_eq_true]; exact List.ext_getElem (by omega) h)
 replace hn := hid hn
 replace hk := hid hk
 clear hl hm ht
 go_enter Try.func56, Try.ntmps56
 by_cases hnk : n = k
 ·have hnki : (n : Int) = (k : Int) := by omega
  subst hnk
  clear hE
  go_wp2
  go_loopw [13, 5] (fun s13 s5 wr => ∃ i : Nat, s13 = .int .i64 i ∧ i ≤ n ∧ Hid (∀ j (h1 : j < l.length) (h2 : j < m.length), j < i → l[j] = m[j]) ∧ Below w.heap.size w wr) (fun s13 _ _ => n - (intOf s13).toNat)
  case atStart => exact ⟨0, rfl, by omega, fun j _ _ h => by omega, Below.refl _ _⟩
  case round =>
   obtain ⟨i, rfl, hi, hA, hB⟩ := hrel
   by_cases hin : i < n
   ·have hii : (i : Int) < (n : Int) := by omega
    have hil : i < l.length := by have := hn.out; omega
    have hik : i < m.length := by have := hk.out; omega
    obtain ⟨b, o, hA1, e0, e1⟩ := hM.out i hin wr hB
    obtain ⟨b', o', hA2, g0, g1⟩ := hK.out i hin wr hB
    have hFi := hid (hF.out i hil hik)
    have hAi := hid fun (h : l[i] = m[i]) (j : Nat) (h1 : j < l.length) (h2 : j < m.length) (hji : j < i + 1) => (show l[j] = m[j] by
     by_cases e : j = i
     ·subst e; exact h
     ·exact hA.out j h1 h2 (by omega))
    generalize l[i] = p at *
    generalize m[i] = q at *
    obtain ⟨p0, p1⟩ := p
    obtain ⟨q0, q1⟩ := q
    dsimp only at e0 e1 g0 g1
    subst hA1 hA2
    clear hM hK hF hT hA hn hk
    by_cases z0 : p0 = q0
    ·subst z0
     by_cases z1 : p1 = q1
     ·subst z1
      have hA3 := hid (hAi.out rfl)
      clear hAi hFi
      go_wp2_with fail
      go_quiet (fail)
      have hv : Below wr.heap.size wr (wr.drewN nq) := below_drewN (Below.refl _ _) _
      generalize hvq : wr.drewN nq = v3 at hv ⊢
      clear hvq
      have hBv := bel_step hB hv
      clear hv hB e0 e1 g0 g1
      go_wp2
      go_roundw
      case rel => exact ⟨i + 1, by go_num, by omega, hA3, hBv⟩
      case measure => simp [intOf]; omega
     ·obtain rfl := hFi.out (fun h => z1 (by injection h))
      clear hAi hFi
      go_wp2_with fail
      go_quiet (fail)
      have hv : Below wr.heap.size wr (wr.drewN nq) := below_drewN (Below.refl _ _) _
      generalize hvq : wr.drewN nq = v3 at hv ⊢
      clear hvq
      have hBv := bel_step hB hv
      clear hv hB e0 e1 g0 g1
      go_wp2
      go_ret
      exact ⟨rfl, hBv⟩
    ·obtain rfl := hFi.out (fun h => z0 (by injection h))
     clear hAi hFi
     go_wp2_with fail
     go_quiet (fail)
     have hv : Below wr.heap.size wr (wr.drewN nq) := below_drewN (Below.refl _ _) _
     generalize hvq : wr.drewN nq = v3 at hv ⊢
     clear hvq
     have hBv := bel_step hB hv
     clear hv hB e0 e1 g0 g1
     go_wp2
     go_ret
     exact ⟨rfl, hBv⟩
   ·obtain rfl : i = n := by omega
    obtain rfl := hT.out (fun j h1 h2 => hA.out j h1 h2 (by have := hn.out; omega)) (by first | rfl | trivial)
    have hii : ¬ (i : Int) < (i : Int) := by omega
    clear hM hK hF hT hA hn hk
    go_wp2
    go_ret
    exact ⟨rfl, hB⟩
 ·have hnki : ¬ (n : Int) = (k : Int) := by omega
  obtain rfl := hE.out hnk
  clear hM hK hF hE hT
  go_wp2
  go_ret
  exact ⟨rfl, Below.refl _ _⟩
theorem OwnP.made0 {w : World} {base : Nat} (h : base ≤ w.heap.size) : OwnP (w.alloc (.cells #[] 23)) base (.slice (some ⟨w.heap.size, 0, none⟩) 0 0) [] :=
 ⟨rfl, .inr ⟨w.heap.size, 0, _, rfl, h, heap_alloc_new w _, by simp, by unfold maxLen; omega, rfl, rfl⟩⟩
theorem run_appE {w : World} (ty : TypeId) (base : Nat) (v : Value) (l : List (Int × Int)) (hown : OwnP w base v l) (b o c : Nat) (m : List (Int × Int)) (hm : Pb w (some ⟨b, o, none⟩) c m) (hn : l.length + m.length ≤ 1000000) (hbase : base ≤ w.heap.size) :
  ∃ v' w', (Builtin.append_ #[47, 47] ty #[v, .slice (some ⟨b, o, none⟩) m.length c]).run Try.prog w = .ok v' w' ∧ OwnP w' base v' (l ++ m) ∧ w.grownBy w' v.ownBlock := by
 obtain ⟨i, hi, hzz⟩ := Option.map_eq_some_iff.1 infoPt
 simp only [Prod.mk.injEq] at hzz
 obtain ⟨hz, hs2, hb⟩ := hzz
 have hr := hm.range
 obtain ⟨v', w', hrun, h2, h3, _, _⟩ := run_append_own_at (P := Try.prog) w base 47 ty 23 i _ 2 16 Try.underlying47 hi hz hs2 hb rfl (by omega) v l.length (cellsP l) hown ⟨b, o, none⟩ m.length c (cellsP m) (cellsP_len m) (fun j u hu => by have := hr j u hu; rwa [← Addr.add_mid] at this) (one_cellsP m) (by unfold maxLen; omega) (by omega) hbase
 exact ⟨v', w', hrun, by unfold OwnP; rw [List.length_append, cellsP_app]; exact h2, h3⟩
theorem wpList_appE {w : World} {ops : Array Oper} {rest : List Oper} {o : Oper} {a : Act} {Q : Exit → Act → World → Prop} (hgd : o.guard = none) (s x : Operand)
  (ho : o.op = .call { callee := .builtin .append, args := #[s, x], argTypes := #[47, 47] })
  (base : Nat) (v : Value) (l : List (Int × Int)) (hs : a.eval s = v) (hown : OwnP w base v l) (b q n c : Nat) (m : List (Int × Int)) (hx : a.eval x = .slice (some ⟨b, q, none⟩) n c) (hmn : m.length = n) (hm : Pb w (some ⟨b, q, none⟩) c m) (hn : l.length + m.length ≤ 1000000) (hbase : base ≤ w.heap.size)
  (h : ∀ v' w', OwnP w' base v' (l ++ m) → w.grownBy w' v.ownBlock → wpList Try.prog ops Q rest (a.put o.dst v') w') : wpList Try.prog ops Q (o :: rest) a w := by
 refine wpList_plain hgd fun _ hK => ?_
 subst hmn
 obtain ⟨v', w', hrun, h2, h3⟩ := run_appE o.type base v l hown b q c m hm hn hbase
 unfold Oper.wp execOp
 simp only [ho, resolve, invoke, builtin, Sem.run_bind, Sem.run_pure, Result.andThen_ok, List.map_toArray, List.map_cons, List.map_nil, hs, hx, hrun]
 exact hK _ _ (h v' w' h2 h3)
theorem step_appE {w : World} {ops : Array Oper} {o : Oper} {a : Act} {K : Act → World → Prop} {Q : Exit → Act → World → Prop} {E : Prop} (hgd : o.guard = none) (s x : Operand)
  (ho : o.op = .call { callee := .builtin .append, args := #[s, x], argTypes := #[47, 47] })
  (base : Nat) (v : Value) (l : List (Int × Int)) (hs : a.eval s = v) (hown : OwnP w base v l) (b q n c : Nat) (m : List (Int × Int)) (hx : a.eval x = .slice (some ⟨b, q, none⟩) n c) (hmn : m.length = n) (hm : Pb w (some ⟨b, q, none⟩) c m) (hn : l.length + m.length ≤ 1000000) (hbase : base ≤ w.heap.size)
  (h : ∀ v' w', OwnP w' base v' (l ++ m) → w.grownBy w' v.ownBlock → K (a.put o.dst v') w') :
  if Region.wanted o (yielded ops a.tmps) = true then Oper.wp Try.prog o a w K Q else E := by
 have hw : Region.wanted o (yielded ops a.tmps) = true := by simp [Region.wanted, hgd]
 rw [if_pos hw]
 subst hmn
 obtain ⟨v', w', hrun, h2, h3⟩ := run_appE o.type base v l hown b q c m hm hn hbase
 unfold Oper.wp execOp
 simp only [ho, resolve, invoke, builtin, Sem.run_bind, Sem.run_pure, Result.andThen_ok, List.map_toArray, List.map_cons, List.map_nil, hs, hx, hrun]
 exact h v' w' h2 h3
set_option maxRecDepth 100000 in
set_option maxHeartbeats 2000000 in
theorem SClone_g (l : List (Int × Int)) (b o c : Nat) {w : World} (hl : Pb w (some ⟨b, o, none⟩) c l) (hln : l.length ≤ 4096) :
  Calls Try.prog 57 #[.slice (some ⟨b, o, none⟩) l.length c] w (RetR w l) := by
 obtain ⟨n, hn⟩ : ∃ n, l.length = n := ⟨_, rfl⟩
 have hO := OwnP.made0 (w := w) (base := w.heap.size) (Nat.le_refl _)
 have hA : Below w.heap.size w (w.alloc (.cells #[] 23)) := (Below.refl _ _).alloc (Nat.le_refl _) _
 have hP := hl.below hA
 have hlen : ([] : List (Int × Int)).length + l.length ≤ 1000000 := by simp; omega
 rw [hn] at hln ⊢
 replace hn := hid hn
 clear hl
 have hnil := fun (W : World) => Go.Lib.run_eql_slice_nil (P := Try.prog) W 47 23 (some ⟨b, o, none⟩) n c 0 0 Try.underlying47
 go_enter Try.func57, Try.ntmps57
 go_wp2_with (at_builtin; refine wpList_appE rfl (.tmp 5) (.tmp 6) rfl w.heap.size _ [] rfl hO b o n c l rfl hn.out hP hlen (by simp) ?_; intro v5 w5 hO5 hgr)
 have hB5 := Below.grown hA hgr (by simp) (fun b e => (World.ownsRow.lt hO b e).1)
 clear hO hgr hP
 rw [List.nil_append] at hO5
 go_wp2
 go_ret
 exact ⟨_, rfl, hO5, hB5⟩
end Go.Proofs.Ytglailcfgcdagaa
