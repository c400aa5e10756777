/- Geometry: a row of points that the call owns, and append to it. Conditions: none. -/
import Derived.Test.YtglailcfgcdagaaGreatZGE
import Derived.Test.YtglailcfgcdagaaGreatZYX
import Derived.Test.YtglailcfgcdagaaGreatZGA
set_option linter.unusedVariables false
set_option linter.unusedSimpArgs false
namespace Go.Proofs.YtglailcfgcdagaaGreat
open Go.RowKit Big
/-- a row of points that the call owns -/
def OwnP (w : World) (base : Nat) (v : Value) (l : List (Int × Int)) : Prop := w.ownsRow base 24 2 v l.length (cellsP l)
theorem infoPt : (Tryz.prog.info? 24).map (fun i => (i.zero, i.size, i.bytes)) = some (some (.agg #[.int .i64 0, .int .i64 0]), 2, 16) := by kernel_rfl
theorem run_appP {w : World} (ty : TypeId) (base : Nat) (v : Value) (l : List (Int × Int)) (p : Int × Int) (g : Nat) (hown : OwnP w base v l)
    (c0 : w.cell? ⟨g, 0, none⟩ = some (.int .i64 p.1)) (c1 : w.cell? ⟨g, 1, none⟩ = some (.int .i64 p.2)) (hl : l.length ≤ 1000000) (hbase : base ≤ w.heap.size) :
    ∃ v' w', (Builtin.append_ #[22, 22] ty #[v, .slice (some ⟨g, 0, none⟩) 1 1]).run Tryz.prog w = .ok v' w' ∧ OwnP w' base v' (l ++ [p]) ∧ w.grownBy w' v.ownBlock := by
  obtain ⟨i, hi, hzz⟩ := Option.map_eq_some_iff.1 infoPt
  simp only [Prod.mk.injEq] at hzz
  obtain ⟨hz, hs2, hb⟩ := hzz
  have hnews : ∀ j u, ([Value.int .i64 p.1, .int .i64 p.2] : List Value)[j]? = some u → w.cell? ((⟨g, 0, none⟩ : Addr).add j) = some u := fun j u hu => by
    match j, hu with
    | 0, hu => have e : u = .int .i64 p.1 := by simpa using hu.symm
               subst e; exact c0
    | 1, hu => have e : u = .int .i64 p.2 := by simpa using hu.symm
               subst e; exact c1
    | j + 2, hu => simp at hu
  have hone : ∀ u ∈ ([Value.int .i64 p.1, .int .i64 p.2] : List Value), u.oneCell' = true := fun u hu => by simp at hu; rcases hu with rfl | rfl <;> rfl
  obtain ⟨v', w', hrun, h2, h3, _, _⟩ := run_append_own_at (P := Tryz.prog) w base 22 ty 24 i _ 2 16 Tryz.underlying22 hi hz hs2 hb rfl (by omega) v l.length (cellsP l) hown ⟨g, 0, none⟩ 1 1 [Value.int .i64 p.1, .int .i64 p.2] rfl hnews hone (by unfold maxLen; omega) (by omega) hbase
  exact ⟨v', w', hrun, by unfold OwnP; rw [List.length_append, cellsP_app]; simpa [cellsP] using h2, h3⟩
theorem wpList_appP {w : World} {ops : Array Oper} {rest : List Oper} {o : Oper} {a : Act} {Q : Exit → Act → World → Prop} (hgd : o.guard = none) (s x : Operand)
  (ho : o.op = .call { callee := .builtin .append, args := #[s, x], argTypes := #[22, 22] })
  (base : Nat) (v : Value) (l : List (Int × Int)) (p : Int × Int) (g : Nat) (hs : a.eval s = v) (hown : OwnP w base v l) (hx : a.eval x = .slice (some ⟨g, 0, none⟩) 1 1)
  (c0 : w.cell? ⟨g, 0, none⟩ = some (.int .i64 p.1)) (c1 : w.cell? ⟨g, 1, none⟩ = some (.int .i64 p.2))
  (hl : l.length ≤ 1000000) (hbase : base ≤ w.heap.size)
  (h : ∀ v' w', OwnP w' base v' (l ++ [p]) → w.grownBy w' v.ownBlock → wpList Tryz.prog ops Q rest (a.put o.dst v') w') : wpList Tryz.prog ops Q (o :: rest) a w := by
 refine wpList_plain hgd fun _ hK => ?_
 obtain ⟨v', w', hrun, h2, h3⟩ := run_appP o.type base v l p g hown c0 c1 hl hbase
 unfold Oper.wp execOp
 simp only [ho, resolve, invoke, builtin, Sem.run_bind, Sem.run_pure, Result.andThen_ok, List.map_toArray, List.map_cons, List.map_nil, hs, hx, hrun]
 exact hK _ _ (h v' w' h2 h3)
theorem OwnP.nil (w : World) (base : Nat) : OwnP w base (.slice none 0 0) [] := World.ownsRow_nil _ _ _ _
theorem OwnP.below {w w' : World} {base : Nat} {v : Value} {l : List (Int × Int)} (h : OwnP w base v l) (hb : Below w.heap.size w w') : OwnP w' base v l := by
 refine ⟨h.1, ?_⟩
 rcases h.2 with h2 | ⟨g, cap, cur, hv, hg, hh, r⟩
 ·exact .inl h2
 ·exact .inr ⟨g, cap, cur, hv, hg, (hb.block g (Array.getElem?_eq_some_iff.1 hh).1).trans hh, r⟩
theorem OwnP.older {w : World} {base base' : Nat} {v : Value} {l : List (Int × Int)} (hb : base' ≤ base) (h : OwnP w base v l) : OwnP w base' v l := by
 refine ⟨h.1, ?_⟩
 rcases h.2 with h2 | ⟨g, cap, cur, hv, hg, hh, r⟩
 ·exact .inl h2
 ·exact .inr ⟨g, cap, cur, hv, Nat.le_trans hb hg, hh, r⟩
/-- the row without its last point: the capacity stays -/
theorem OwnP.pop {w : World} {base : Nat} {A : Option Addr} {n c : Nat} {l : List (Int × Int)} {p : Int × Int} (h : OwnP w base (.slice A n c) (l ++ [p])) : OwnP w base (.slice A (n - 1) c) l := by
 refine ⟨by rw [cellsP_len], ?_⟩
 rcases h.2 with ⟨_, h2⟩ | ⟨g, cap, cur, hv, hg, hh, hnc, hmx, hcs, ht⟩
 ·simp at h2
 ·injection hv with h1 h2 h3
  subst h1 h3
  have hn : n = l.length + 1 := by rw [h2]; simp
  refine .inr ⟨g, c, cur, by rw [hn]; rfl, hg, hh, by simp at hnc; omega, hmx, hcs, ?_⟩
  have ht2 := congrArg (List.take (l.length * 2)) ht
  rw [List.take_take, cellsP_app, List.take_left' (cellsP_len l)] at ht2
  rw [← ht2]
  congr 1
  simp
end Go.Proofs.YtglailcfgcdagaaGreat
/- Geometry: sorted. Conditions: at most 4096 points. -/
namespace Go.Proofs.YtglailcfgcdagaaGreat
open Go.RowKit Big
/-- a row of points that the call owns -/
def RetR (w : World) (L : List (Int × Int)) (e : Ending) (w' : World) : Prop := ∃ v, e = .returned v ∧ w'.ownsRow w.heap.size 24 2 v L.length (cellsP L) ∧ Below w.heap.size w w'
def sofQ (l : List (Int × Int)) (i : Nat) : List (Int × Int) := l.take i ++ List.replicate (l.length - i) (0, 0)
theorem sofQ_len (l : List (Int × Int)) (i : Nat) (h : i ≤ l.length) : (sofQ l i).length = l.length := by unfold sofQ; simp; omega
theorem sofQ_set (l : List (Int × Int)) (i : Nat) (h : i < l.length) : (sofQ l i).set i l[i] = sofQ l (i + 1) := by
 unfold sofQ
 have e5 : (l.take i).length = i := by simp; omega
 rw [List.set_append_right _ _ (by omega), e5, Nat.sub_self, show l.length - i = l.length - (i + 1) + 1 by omega, List.replicate_succ, List.set_cons_zero, List.take_succ_eq_append_getElem h, List.append_assoc]
 rfl
theorem sofQ_all (l : List (Int × Int)) : sofQ l l.length = l := by unfold sofQ; simp
theorem sofQ_none (l : List (Int × Int)) : sofQ l 0 = List.replicate l.length (0, 0) := by unfold sofQ; simp
set_option maxRecDepth 100000 in
set_option maxHeartbeats 4000000 in
theorem Gsorted_g (l : List (Int × Int)) (A : Option Addr) (c : Nat) {w : World} (hl : Pb w A c l) (hln : l.length ≤ 4096) :
  Calls Tryz.prog 37 #[.slice A l.length c] w (RetR w (sortP l)) := by
 obtain ⟨n, hn⟩ : ∃ n, l.length = n := ⟨_, rfl⟩
 have hM := hid fun (j : Nat) (hj : j < n) (W : World) (hb : Below w.heap.size w W) => (hl.below hb).at_ (k := j) (by omega)
 have hn4 : n ≤ 4096 := by omega
 have hmk := fun (W : World) => makeP W n (by omega)
 rw [hn]
 have hn := hid hn
 clear hl hln
 go_enter Tryz.func37, Tryz.ntmps37
 go_upto_region 2 with fail
 clear hmk
 refine enterR (P := fun u => Code.wp _ _ _ _ u) (c := cellsP (List.replicate n (0, 0))) ?_
 intro u HB rg zg hsz
 have hF : FilQ w w.heap.size (sofQ l 0) u := ⟨HB, zg, Nat.le_refl _, by rw [sofQ_none, hn.out]; exact rg⟩
 clear HB rg zg hsz
 go_wp2
 go_loopw [14] (fun s14 wr => ∃ i : Nat, s14 = .int .i64 i ∧ i ≤ n ∧ FilQ w w.heap.size (sofQ l i) wr) (fun s14 _ => n - (intOf s14).toNat)
 case atStart => exact ⟨0, rfl, by omega, hF⟩
 case round =>
  obtain ⟨i, rfl, hi, hS⟩ := hrel
  clear hF
  by_cases hin : i < n
  ·have hii : (i : Int) < (n : Int) := by omega
   have hil : i < l.length := by have := hn.out; omega
   obtain ⟨b, o, hA, c0, c1⟩ := hM.out i hin wr hS.b
   clear hM
   subst hA
   have hE := hid (sofQ_set l i hil)
   obtain ⟨p, hp⟩ : ∃ p, l[i] = p := ⟨_, rfl⟩
   rw [hp] at c0 c1 hE
   clear hp
   obtain ⟨x, y⟩ := p
   dsimp only at c0 c1
   go_upto_region 5 with fail
   refine enterR (P := fun u => Code.wp _ _ _ _ u) (c := [.int .i64 x, .int .i64 y]) ?_
   intro v hv r4 zn4 hsz
   have d0 : v.cell? ⟨wr.heap.size, 0, none⟩ = some (.int .i64 x) := r4 0 _ rfl
   have d1 : v.cell? ⟨wr.heap.size, 1, none⟩ = some (.int .i64 y) := r4 1 _ rfl
   have HS := hS.below hv
   have hl2 : i < (sofQ l i).length := by rw [sofQ_len l i (by omega)]; exact hil
   obtain ⟨k0, k1⟩ := HS.cell hl2
   have hSF := hid (HS.set hl2 (x, y))
   rw [hE.out] at hSF
   generalize (sofQ l i)[i] = zz at k0 k1
   have fq := HS.z.fr
   have ltg := HS.z.lt
   clear hsz r4 zn4 hv c0 c1 hS HS hE hl2
   go_wp2
   go_roundw
   case rel => exact ⟨i + 1, by go_num, by omega, hSF.out⟩
   case measure => simp [intOf]; omega
  ·obtain rfl : i = n := by omega
   have hii : ¬ (i : Int) < (i : Int) := by omega
   have hS2 : FilQ w w.heap.size l wr := by
    have := hS
    rw [← hn.out, sofQ_all] at this
    exact this
   clear hM hS
   have hH : Go.Sort.HoldsK encP 2 wr w.heap.size 0 l.toArray := holds_of_pb (fun j hj => by have := hS2.cell hj; rw [Nat.zero_add]; exact this) hS2.z.fr
   have hst := sort_w l w.heap.size 0 i wr hH hS2.z.lt (by have := hn.out; omega)
   rw [hn.out] at hst
   obtain ⟨L, hL⟩ : ∃ L, (l.mergeSort fun x y => !decide (cmpP y x < 0)) = L := ⟨_, rfl⟩
   have hLl : L.length = i := by rw [← hL, List.length_mergeSort, hn.out]
   have hLs := hid (show dedP L = sortP l by rw [← hL]; rfl)
   rw [hL] at hst
   clear hL
   replace hst := hid hst
   have hb0 := hS2.b
   have hlt0 := hS2.z.lt
   clear hS2
   go_wp2_with fail
   refine hst.out.mono ?_
   rintro e w1 ⟨rfl, m, os, hw1⟩
   have hb1 : Below w.heap.size w w1 := by rw [hw1]; exact hb0.trans (below_sortK (Nat.le_refl _) hlt0)
   have hH1 : Go.Sort.HoldsK encP 2 w1 w.heap.size 0 L.toArray := by rw [hw1]; exact holds_sortK hH (by have := hn.out; simp; omega) hlt0
   have hlt1 : w.heap.size < w1.heap.size := Nat.lt_of_lt_of_le hlt0 (by rw [hw1]; exact (below_sortK (base := 0) (Nat.zero_le _) hlt0).size)
   have hP := pb_of_holds (c := i) hH1 (by omega) (by omega) hlt1
   clear hw1 hH1 hst hH hb0
   have hM := hid fun (j : Nat) (hj : j < i) (W : World) (hb : Below w1.heap.size w1 W) => (show W.cell? ⟨w.heap.size, j * 2, none⟩ = some (.int .i64 (L[j]'(by omega)).1) ∧ W.cell? ⟨w.heap.size, j * 2 + 1, none⟩ = some (.int .i64 (L[j]'(by omega)).2) from by
    obtain ⟨b, o, e, c0, c1⟩ := (hP.below hb).at_ (k := j) (by omega)
    cases e
    rw [Nat.zero_add] at c0 c1
    exact ⟨c0, c1⟩)
   clear hP
   go_wp2
   go_loopw [28, 6] (fun s28 s6 wr => ∃ j : Nat, s28 = .int .i64 j ∧ j ≤ i ∧ OwnP wr w1.heap.size s6 (dedP (L.take j)) ∧ Below w1.heap.size w1 wr) (fun s28 _ _ => i - (intOf s28).toNat)
   case atStart => exact ⟨0, rfl, by omega, OwnP.nil _ _, Below.refl _ _⟩
   case round =>
    obtain ⟨j, rfl, hj, hO, hB⟩ := hrel
    by_cases hji : j < i
    ·have hjj : (j : Int) < (i : Int) := by omega
     have hjL : j < L.length := by omega
     obtain ⟨c0, c1⟩ := hM.out j hji wr hB
     have hF := hid fun (h : j = 0) => (show dedP (L.take (j + 1)) = dedP (L.take j) ++ [L[j]] from by
      subst h; exact dedP_first hjL)
     have hD := hid fun (k : Nat) (h : k + 1 = j) => (show dedP (L.take (j + 1)) = if L[k] = L[j] then dedP (L.take j) else dedP (L.take j) ++ [L[j]] from by
      subst h; exact dedP_take hjL)
     have hK := hid fun (k : Nat) (h : k + 1 = j) (W : World) (hb : Below w1.heap.size w1 W) => hM.out k (by omega) W hb
     have hlen : (dedP (L.take j)).length ≤ 1000000 := Nat.le_trans (dedP_le _) (by simp; omega)
     generalize dedP (L.take j) = l at *
     obtain ⟨l2, hE2⟩ : ∃ l2, dedP (L.take (j + 1)) = l2 := ⟨_, rfl⟩
     rw [hE2] at hF hD
     have hE2 := hid hE2
     generalize L[j] = p at *
     obtain ⟨x, y⟩ := p
     dsimp only at c0 c1
     clear hM hLs
     go_upto_region 12 with fail
     refine enterR (P := fun u => Code.wp _ _ _ _ u) (c := [.int .i64 x, .int .i64 y]) ?_
     intro v hv r4 zn4 hsz
     have d0 : v.cell? ⟨wr.heap.size, 0, none⟩ = some (.int .i64 x) := r4 0 _ rfl
     have d1 : v.cell? ⟨wr.heap.size, 1, none⟩ = some (.int .i64 y) := r4 1 _ rfl
     replace hB := bel_step hB hv
     replace hO := hO.below hv
     have hwr : w1.heap.size ≤ v.heap.size := hB.size
     clear hsz r4 zn4 hv c0 c1
     rcases (show j = 0 ∨ ∃ k, k + 1 = j by cases j <;> simp) with hj0 | ⟨k, hkj⟩
     ·obtain rfl := hF.out hj0
      have hji0 : (j : Int) = 0 := by omega
      clear hF hD hK hj0
      go_quiet (fail)
      have hv : Below v.heap.size v (v.drewN nq) := below_drewN (Below.refl _ _) _
      generalize hvq : v.drewN nq = v2 at hv ⊢
      clear hvq
      have hB2 := bel_step hB hv
      have hO2 := hO.below hv
      have f0 := keep_cell hv d0
      have f1 := keep_cell hv d1
      have hwr2 := Nat.le_trans hwr hv.size
      have hOA := hO2.below ((Below.refl _ _).alloc (Nat.le_refl _) (.cells #[.int .i64 x, .int .i64 y] 24))
      have hBA := hB2.alloc hwr2 (.cells #[.int .i64 x, .int .i64 y] 24)
      clear hO hB hv d0 d1 hwr hO2 hB2
      go_upto_region 14 with (at_builtin; refine wpList_appP rfl (.tmp 44) (.tmp 46) rfl w1.heap.size _ l (x, y) v2.heap.size rfl hOA rfl (at_alloc0 rfl) (at_alloc1 rfl) hlen (by simp; omega) ?_; intro s6 w6 hown6 hgr)
      have hB6 := Below.grown hBA hgr (by simp; omega) (fun b e => (World.ownsRow.lt hOA b e).1)
      clear hOA hBA hgr f0 f1
      go_wp2
      go_roundw
      case rel => exact ⟨j + 1, by go_num, by omega, by rw [hE2.out]; exact hown6, hB6⟩
      case measure => simp [intOf]; omega
     ·clear hF
      obtain ⟨e0, e1⟩ := hK.out k hkj v hB
      have hD2 := hD.out k hkj
      have hw1 : (j : Int) - 1 = (k : Int) := by omega
      have hki : (k : Int) < (i : Int) := by omega
      have hg1 : ((j : Int) == 0) = false := beq_eq_false_iff_ne.2 (by omega)
      have hlk : k < L.length := by omega
      clear hK hD
      generalize L[k] = q at *
      replace hkj := hid hkj
      obtain ⟨x2, y2⟩ := q
      dsimp only at e0 e1
      by_cases hx : x = x2
      ·by_cases hy : y = y2
       ·subst hx hy
        rw [if_pos rfl] at hD2
        subst hD2
        go_quiet (fail)
        have hv : Below v.heap.size v (v.drewN nq) := below_drewN (Below.refl _ _) _
        generalize hvq : v.drewN nq = v2 at hv ⊢
        clear hvq
        have hB2 := bel_step hB hv
        have hO2 := hO.below hv
        clear hO hB hv d0 d1
        go_wp2
        go_roundw
        case rel => exact ⟨j + 1, by go_num, by omega, by rw [hE2.out]; exact hO2, hB2⟩
        case measure => simp [intOf]; omega
       ·subst hx
        have hne : ¬ (x, y2) = (x, y) := fun h => hy (by injection h with _ h; exact h.symm)
        rw [if_neg hne] at hD2
        clear hne
        subst hD2
        go_quiet (fail)
        have hv : Below v.heap.size v (v.drewN nq) := below_drewN (Below.refl _ _) _
        generalize hvq : v.drewN nq = v2 at hv ⊢
        clear hvq
        have hB2 := bel_step hB hv
        have hO2 := hO.below hv
        have f0 := keep_cell hv d0
        have f1 := keep_cell hv d1
        have hwr2 := Nat.le_trans hwr hv.size
        have hOA := hO2.below ((Below.refl _ _).alloc (Nat.le_refl _) (.cells #[.int .i64 x, .int .i64 y] 24))
        have hBA := hB2.alloc hwr2 (.cells #[.int .i64 x, .int .i64 y] 24)
        clear hO hB hv d0 d1 hwr hO2 hB2
        go_upto_region 14 with (at_builtin; refine wpList_appP rfl (.tmp 44) (.tmp 46) rfl w1.heap.size _ l (x, y) v2.heap.size rfl hOA rfl (at_alloc0 rfl) (at_alloc1 rfl) hlen (by simp; omega) ?_; intro s6 w6 hown6 hgr)
        have hB6 := Below.grown hBA hgr (by simp; omega) (fun b e => (World.ownsRow.lt hOA b e).1)
        clear hOA hBA hgr f0 f1
        go_wp2
        go_roundw
        case rel => exact ⟨j + 1, by go_num, by omega, by rw [hE2.out]; exact hown6, hB6⟩
        case measure => simp [intOf]; omega
      ·have hne : ¬ (x2, y2) = (x, y) := fun h => hx (by injection h with h _; exact h.symm)
       rw [if_neg hne] at hD2
       clear hne
       subst hD2
       go_quiet (fail)
       have hv : Below v.heap.size v (v.drewN nq) := below_drewN (Below.refl _ _) _
       generalize hvq : v.drewN nq = v2 at hv ⊢
       clear hvq
       have hB2 := bel_step hB hv
       have hO2 := hO.below hv
       have f0 := keep_cell hv d0
       have f1 := keep_cell hv d1
       have hwr2 := Nat.le_trans hwr hv.size
       have hOA := hO2.below ((Below.refl _ _).alloc (Nat.le_refl _) (.cells #[.int .i64 x, .int .i64 y] 24))
       have hBA := hB2.alloc hwr2 (.cells #[.int .i64 x, .int .i64 y] 24)
       clear hO hB hv d0 d1 hwr hO2 hB2
       go_upto_region 14 with (at_builtin; refine wpList_appP rfl (.tmp 44) (.tmp 46) rfl w1.heap.size _ l (x, y) v2.heap.size rfl hOA rfl (at_alloc0 rfl) (at_alloc1 rfl) hlen (by simp; omega) ?_; intro s6 w6 hown6 hgr)
       have hB6 := Below.grown hBA hgr (by simp; omega) (fun b e => (World.ownsRow.lt hOA b e).1)
       clear hOA hBA hgr f0 f1
       go_wp2
       go_roundw
       case rel => exact ⟨j + 1, by go_num, by omega, by rw [hE2.out]; exact hown6, hB6⟩
       case measure => simp [intOf]; omega
    ·obtain rfl : j = i := by omega
     have hjj : ¬ (j : Int) < (j : Int) := by omega
     rw [List.take_of_length_le (by omega), hLs.out] at hO
     have hfin := hid (OwnP.older (Nat.le_of_lt hlt1) hO)
     have hbf := hid (hb1.trans (hB.mono (Nat.le_of_lt hlt1)))
     clear hO hM
     go_wp2
     go_ret
     exact ⟨_, rfl, hfin.out, hbf.out⟩
end Go.Proofs.YtglailcfgcdagaaGreat
