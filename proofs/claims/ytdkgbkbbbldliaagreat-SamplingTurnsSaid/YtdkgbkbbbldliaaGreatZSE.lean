/- A row of integers that the call owns. Conditions: none. -/
import Derived.Test.YtdkgbkbbbldliaaGreatZYX
import Derived.Test.YtdkgbkbbbldliaaGreatZYS
import Derived.Test.YtdkgbkbbbldliaaGreatZSC
import Derived.Test.YtdkgbkbbbldliaaGreatZHm20
import Derived.Test.YtdkgbkbbbldliaaGreatZYZ
set_option linter.unusedVariables false
set_option linter.unusedSimpArgs false
namespace Go.Proofs.YtdkgbkbbbldliaaGreat
open Go.RowKit Big
theorem W9 (f : ZE) : ∀ x ∈ f.cells, isW x = false := by
 intro x hx
 simp only [ZE.cells, List.mem_cons, List.not_mem_nil, or_false] at hx
 rcases hx with rfl | rfl <;> rfl
theorem Xs : ∀ ts : List ZE, ∀ x ∈ Kc ts, isW x = false
 | [], x, hx => by simp [Kc] at hx
 | f :: ts, x, hx => by
  rcases List.mem_append.1 hx with h | h
  ·exact W9 f x h
  ·exact Xs ts x h
structure OwnM (w : World) (base : Nat) (v : Value) (ts : List ZE) : Prop where
 own : w.ownsRow base 27 2 v ts.length (Kc ts)
 ni : ∀ k, v.ownBlock = some k → ∀ cur e fz, w.heap[k]? = some (.cells cur e fz) → ∀ x ∈ cur.toList, isW x = false
theorem OwnM.nil (w : World) (base : Nat) : OwnM w base (.slice none 0 0) [] := ⟨World.ownsRow_nil _ _ _ _, fun k h => by simp [Value.ownBlock] at h⟩
theorem OwnM.below {w w' : World} {base : Nat} {v : Value} {ts : List ZE} (h : OwnM w base v ts) (hb : Below w.heap.size w w') : OwnM w' base v ts := by
 refine ⟨⟨h.own.1, ?_⟩, fun k hk cur e fz hc => ?_⟩
 ·rcases h.own.2 with h2 | ⟨g, cap, cur, hv, hg, hh, r⟩
  ·exact .inl h2
  ·exact .inr ⟨g, cap, cur, hv, hg, (hb.block g (Array.getElem?_eq_some_iff.1 hh).1).trans hh, r⟩
 ·exact h.ni k hk cur e fz ((hb.block k (h.own.lt k hk).2).symm.trans hc)
theorem OwnM.far {w : World} {base : Nat} {v : Value} {ts : List ZE} (h : OwnM w base v ts) {A : Option Addr} {c : Nat} {xs : List Nat} (m : Mg w A c xs) (hl : 0 < xs.length) : ∀ p, A = some p → some p.block ≠ v.ownBlock := by
 intro p hp he
 obtain ⟨b, o, e, hB, hc⟩ := m.rd hl
 rw [e] at hp
 injection hp with hp
 subst hp
 have h1 := hc 0 hl
 have h2 := h.ni b he.symm
 unfold World.cell? at h1
 simp only [Option.isSome_none, Bool.false_eq_true, if_false] at h1
 split at h1
 ·rename_i cur e' fz hq
  have h3 := h2 cur e' fz hq (lim xs[0]) (by
   obtain ⟨h4, h5⟩ := Array.getElem?_eq_some_iff.1 h1
   rw [← h5]; exact Array.getElem_mem_toList h4)
  simp [lim, isW] at h3
 ·cases h1
theorem Mg.grownM {w w' : World} {base : Nat} {v : Value} {ts : List ZE} (h : OwnM w base v ts) {A : Option Addr} {c : Nat} {xs : List Nat} (m : Mg w A c xs) (hg : w.grownBy w' v.ownBlock) : Mg w' A c xs :=
 ⟨m.cap, m.max, m.ok, fun hl => by
  have hne := h.far m hl
  obtain ⟨b, o, e, hB, hc⟩ := m.rd hl
  exact ⟨b, o, e, Nat.lt_of_lt_of_le hB hg.size, fun j hj => (World.cell?_of_block (a := ⟨b, o + j, none⟩) (hg.block b hB (hne _ e))).trans (hc j hj)⟩⟩
section
variable {P : Program}
theorem run_appM {w : World} (ty : TypeId) (base : Nat) (v : Value) (ts : List ZE) (f : ZE) (g : Nat) (hown : OwnM w base v ts)
    (c0 : w.cell? ⟨g, 0, none⟩ = some (.bool f.b)) (c1 : w.cell? ⟨g, 1, none⟩ = some (.slice f.A f.n f.c)) (hl : ts.length ≤ 1000000) (hbase : base ≤ w.heap.size) :
    ∃ v' w', (Builtin.append_ #[67, 67] ty #[v, .slice (some ⟨g, 0, none⟩) 1 1]).run Tryz.prog w = .ok v' w' ∧ OwnM w' base v' (ts ++ [f]) ∧ w.grownBy w' v.ownBlock := by
  obtain ⟨i, hi, hzz⟩ := Option.map_eq_some_iff.1 infoInt2
  simp only [Prod.mk.injEq] at hzz
  obtain ⟨hz, hs2, hb⟩ := hzz
  have hnews : ∀ j u, f.cells[j]? = some u → w.cell? ((⟨g, 0, none⟩ : Addr).add j) = some u := fun j u hu => by
    match j, hu with
    | 0, hu => have e : u = .bool f.b := by simpa [ZE.cells] using hu.symm
               subst e; exact c0
    | 1, hu => have e : u = .slice f.A f.n f.c := by simpa [ZE.cells] using hu.symm
               subst e; exact c1
    | j + 2, hu => simp [ZE.cells] at hu
  have hone : ∀ u ∈ f.cells, u.oneCell' = true := fun u hu => by simp [ZE.cells] at hu; rcases hu with rfl | rfl <;> rfl
  have hul : Tryz.prog.underlying 67 = some (.slice 27) := Tryz.underlying67
  obtain ⟨v', w', hrun, h2, h3, _, _⟩ := run_append_own_at (P := Tryz.prog) w base 67 ty 27 i _ 2 32 hul hi hz hs2 hb rfl (by omega) v ts.length (Kc ts) hown.own ⟨g, 0, none⟩ 1 1 f.cells rfl hnews hone (by unfold maxLen; omega) (by omega) hbase
  refine ⟨v', w', hrun, ⟨by rw [List.length_append, Qx]; simpa [Kc] using h2, ?_⟩, h3⟩
  have hni := hown.ni
  have hge (old : Nat) : ∀ x ∈ (Kc ts ++ f.cells ++ (Builtin.zeroCells #[.bool false, .slice none 0 0] old).toList), isW x = false := by
    intro x hx
    rcases List.mem_append.1 hx with hx | hx
    · rcases List.mem_append.1 hx with hx | hx
      · exact Xs _ x hx
      · exact W9 _ x hx
    · exact isW_zero _ x hx
  rcases hown.own.2 with ⟨hv, hn⟩ | ⟨g', cap, cur, hv, hbg, hg, hnc, hcm, hcs, htake⟩
  · subst hv
    have ht : ts = [] := List.eq_nil_of_length_eq_zero hn
    subst ht
    have hr := run_append_nil (P := Tryz.prog) w 67 ty 27 i _ hul hi hz ⟨g, 0, none⟩ 1 1 f.cells (by rw [hs2]; rfl) hnews (by omega) (by omega) (by rw [hb]; omega)
    rw [hrun] at hr
    injection hr with e1 e2
    subst e1 e2
    intro k hk cur e fz hc
    simp only [Value.ownBlock, Option.some.injEq] at hk
    subst hk
    have := heap_alloc_new w.drew (.cells (f.cells.toArray ++ Builtin.zeroCells #[.bool false, .slice none 0 0] (grownCap w 1 0 27 - 1)) 27)
    have hc2 := this.symm.trans hc
    injection hc2 with hc2
    injection hc2 with hc2
    subst hc2
    intro x hx
    refine hge (grownCap w 1 0 27 - 1) x ?_
    simpa [Kc] using hx
  · subst hv
    by_cases hroom : ts.length + 1 ≤ cap
    · have hr := run_append_room (P := Tryz.prog) w 67 ty 27 i hul hi g' ts.length cap cur hg ⟨g, 0, none⟩ 1 1 f.cells (by rw [hs2]; rfl) hnews hone hroom (by rw [hs2, hcs]; simp [ZE.cells]; omega)
      rw [hrun] at hr
      injection hr with e1 e2
      subst e1 e2
      intro k hk cur' e fz hc
      simp only [Value.ownBlock, Option.some.injEq] at hk
      subst hk
      have hc2 := (setRow_heap w g' cur _ 27 _ hg).symm.trans hc
      injection hc2 with hc2
      injection hc2 with hc2
      subst hc2
      intro x hx
      have h0 := hni g' rfl _ _ _ hg
      rcases List.mem_append.1 hx with hx | hx
      · rcases List.mem_append.1 hx with hx | hx
        · exact h0 x (List.mem_of_mem_take hx)
        · exact W9 _ x hx
      · exact h0 x (List.mem_of_mem_drop hx)
    · have holds := hown.own.cells (g := g') rfl
      have hr := run_append_grow (P := Tryz.prog) w 67 ty 27 i _ hul hi hz ⟨g', 0, none⟩ ts.length cap (Kc ts) (by rw [hs2]; exact hown.own.1) holds ⟨g, 0, none⟩ 1 1 f.cells (by rw [hs2]; rfl) hnews (by omega) (by omega) (by rw [hb]; exact growslice_fits (by omega) (by omega))
      rw [hrun] at hr
      injection hr with e1 e2
      subst e1 e2
      intro k hk cur' e fz hc
      simp only [Value.ownBlock, Option.some.injEq] at hk
      subst hk
      have hc2 := (heap_alloc_new w.drew _).symm.trans hc
      injection hc2 with hc2
      injection hc2 with hc2
      subst hc2
      intro x hx
      refine hge (grownCap w (ts.length + 1) cap 27 - (ts.length + 1)) x ?_
      have e0 : (Value.agg #[Value.bool false, Value.slice none 0 0]).cells = #[Value.bool false, .slice none 0 0] := rfl
      rw [e0] at hx
      simpa using hx
theorem wpList_appM {w : World} {ops : Array Oper} {rest : List Oper} {o : Oper} {a : Act} {Q : Exit → Act → World → Prop} (hgd : o.guard = none) (s x : Operand)
  (ho : o.op = .call { callee := .builtin .append, args := #[s, x], argTypes := #[67, 67] })
  (base : Nat) (v : Value) (ts : List ZE) (f : ZE) (g : Nat) (hs : a.eval s = v) (hown : OwnM w base v ts) (hx : a.eval x = .slice (some ⟨g, 0, none⟩) 1 1)
  (c0 : w.cell? ⟨g, 0, none⟩ = some (.bool f.b)) (c1 : w.cell? ⟨g, 1, none⟩ = some (.slice f.A f.n f.c))
  (hl : ts.length ≤ 1000000) (hbase : base ≤ w.heap.size)
  (h : ∀ v' w', OwnM w' base v' (ts ++ [f]) → w.grownBy w' v.ownBlock → wpList Tryz.prog ops Q rest (a.put o.dst v') w') : wpList Tryz.prog ops Q (o :: rest) a w := by
 refine wpList_plain hgd fun _ hK => ?_
 obtain ⟨v', w', hrun, h2, h3⟩ := run_appM o.type base v ts f g hown c0 c1 hl hbase
 unfold Oper.wp execOp
 simp only [ho, resolve, invoke, builtin, Sem.run_bind, Sem.run_pure, Result.andThen_ok, List.map_toArray, List.map_cons, List.map_nil, hs, hx, hrun]
 exact hK _ _ (h v' w' h2 h3)
end
theorem OwnM.set {w : World} {base : Nat} {v : Value} {ts : List ZE} (h : OwnM w base v ts) {g i : Nat} {u : Value} (hg : g < base) : OwnM (w.setCell ⟨g, i, none⟩ u) base v ts := by
 have hne : ∀ k, v.ownBlock = some k → (w.setCell ⟨g, i, none⟩ u).heap[k]? = w.heap[k]? := fun k hk => by
  have := (h.own.lt k hk).1
  exact Below.heap_setCell w ⟨g, i, none⟩ u k (by simp; omega)
 refine ⟨⟨h.own.1, ?_⟩, fun k hk cur e fz hc => h.ni k hk cur e fz ((hne k hk).symm.trans hc)⟩
 rcases h.own.2 with h2 | ⟨g', cap, cur, hv, hg', hh, r⟩
 ·exact .inl h2
 ·exact .inr ⟨g', cap, cur, hv, hg', (hne g' (by rw [hv]; rfl)).trans hh, r⟩
theorem ZE.grownM {w w' : World} {base : Nat} {v : Value} {ts : List ZE} (h : OwnM w base v ts) {e : ZE} (m : e.ok w) (hg : w.grownBy w' v.ownBlock) : e.ok w' := ⟨m.i, m.m.grownM h hg⟩
theorem OwnM.form {w : World} {base : Nat} {v : Value} {ts : List ZE} (h : OwnM w base v ts) : ∃ A c, v = .slice A ts.length c ∧ ts.length ≤ c ∧ c ≤ 9223372036854775807 := by
 rcases h.own.2 with ⟨rfl, h0⟩ | ⟨g, cap, cur, rfl, _, hg, hnc, hmx, hcs, htake⟩
 ·exact ⟨none, 0, by rw [h0], by omega, by omega⟩
 ·exact ⟨_, cap, rfl, hnc, by unfold maxLen at hmx; omega⟩
theorem OwnM.rng {w : World} {base : Nat} {v : Value} {ts : List ZE} (h : OwnM w base v ts) (h0 : 0 < ts.length) : ∃ g c, v = .slice (some ⟨g, 0, none⟩) ts.length c ∧ base ≤ g ∧ w.rangeAt g 0 (Kc ts) ∧ ts.length ≤ c ∧ c ≤ maxLen := Y6 h.own h0
theorem Floor_f {f : Rf} {w : World} (m : f.mg w) (hv : f.v = true) {z : Int} (hz : f.ze.map (·.z) = [z, 1]) {b2 : Bool} {n2 : Nat} {L2 : List Nat} (I : Iz z b2 n2 L2) :
  Calls Tryz.prog 93 #[.agg #[.bool f.na, .slice f.A f.xs.length f.ca, .bool f.nb, .slice f.B f.ys.length f.cb]] w (GZE w b2 n2 L2 0) := by
 have h := FrFloor_any (na := f.na) (nb := f.nb) m.m1 m.m2
 simp only [Rf.ze, List.map_cons, List.map_nil, List.cons.injEq, and_true] at hz
 obtain ⟨h1, h2⟩ := hz
 have hy : val f.ys = 1 := by
  unfold sg at h2
  split at h2 <;> omega
 have e : intR flrF f.na f.xs f.nb f.ys = (z, 0) := by
  unfold intR
  rw [if_pos (show fvB f.na f.xs f.nb f.ys = true from hv)]
  unfold flrF
  rw [h1, hy]
  simp
 rw [e] at h
 obtain ⟨rfl, rfl, rfl⟩ := I
 exact h
theorem homZ_at {N : List Int} {rf : List Rf} (h : (zl rf).map (·.z) = homZ N) : ∀ j (h1 : j < rf.length) (h2 : j < N.length), rf[j].ze.map (·.z) = [N[j], 1] := by
 induction rf generalizing N with
 | nil => intro j h1; simp at h1
 | cons f fs ih =>
  cases N with
  | nil => intro j _ h2; simp at h2
  | cons n ns =>
   have e1 : (zl (f :: fs)).map (·.z) = f.ze.map (·.z) ++ (zl fs).map (·.z) := by simp [zl]
   have e2 : homZ (n :: ns) = [n, 1] ++ homZ ns := by simp [homZ]
   rw [e1, e2] at h
   obtain ⟨h3, h4⟩ := List.append_inj h (by simp [Rf.ze])
   intro j h1 h2
   match j, h1, h2 with
   | 0, _, _ => exact h3
   | j + 1, h1, h2 => exact ih h4 j (by simpa using h1) (by simpa using h2)
def RetI9 (w : World) (N : List Int) (e : Ending) (w' : World) : Prop := ∃ (v : Value) (l : List ZE), e = .returned v ∧ OwnM w' w.heap.size v l ∧ l.map (·.z) = N ∧ (∀ x ∈ l, x.ok w') ∧ Below w.heap.size w w'
set_option maxRecDepth 100000 in
set_option maxHeartbeats 4000000 in
theorem Sfloors_g (rf : List Rf) (N : List Int) (h9 : rf.length = 9) (hN : N.length = 9) (hz : (zl rf).map (·.z) = homZ N) {g : Nat} {w : World} (hv : ∀ f ∈ rf, f.v = true) (hm : ∀ f ∈ rf, f.mg w) (hr : w.rangeAt g 0 (Kc (zl rf))) :
  Calls Tryz.prog 59 #[.slice (some ⟨g, 0, none⟩) 9 9] w (RetI9 w N) := by
 have hlg := Kd (Wb hr 0 (by omega)).1
 have HR := hid hr
 have HM := hid fun (W : World) (h : Below w.heap.size w W) f (hf : f ∈ rf) => (hm f hf).below h
 have HZ := hid (homZ_at hz)
 have HV := hid hv
 clear hr hm hz hv
 go_enter Tryz.func59, Tryz.ntmps59
 go_wp2
 go_loopw [10, 3] (fun s10 s3 wr => ∃ (j : Nat) (l : List ZE), j ≤ 9 ∧ s10 = .int .i64 j ∧ OwnM wr w.heap.size s3 l ∧ Hid (l.map (·.z) = N.take j) ∧ Hid (∀ e ∈ l, e.ok wr) ∧ Below w.heap.size w wr) (fun s10 _ _ => 9 - (intOf s10).toNat)
 case atStart => exact ⟨0, [], by omega, rfl, OwnM.nil _ _, rfl, fun e he => by simp at he, Below.refl _ _⟩
 case round =>
  obtain ⟨j, l, hj, rfl, hown, hlz, hlo, hbl⟩ := hrel
  by_cases h4 : j < 9
  ·have h4i : (j : Int) < 9 := by omega
   have hjf : j < rf.length := by omega
   have hjn : j < N.length := by omega
   obtain ⟨t0, t1, t2, t3⟩ := Wb (Ke HR.out hbl) j hjf
   have hll : l.length = j := by rw [← List.length_map (·.z), hlz.out, List.length_take]; omega
   obtain ⟨b2, n2, L2, I2⟩ := iz N[j]
   have HF := hid fun (W : World) (h : Below wr.heap.size wr W) => Floor_f ((HM.out W (Kb hbl h)) _ (List.getElem_mem hjf)) (HV.out _ (List.getElem_mem hjf)) (HZ.out j hjf hjn) I2.out
   have hlz' : ∀ e : ZE, e.z = N[j] → Hid ((l ++ [e]).map (·.z) = N.take (j + 1)) := fun e he => by
    unfold Hid
    rw [List.map_append, hlz.out, List.take_succ_eq_append_getElem hjn]
    simp [he]
   have hlz' := hid hlz'
   have HO := hid hown
   have lt0 := Kd t0
   have hsb := hbl.size
   generalize rf[j] = f at *
   generalize N[j] = z at *
   obtain ⟨na, A, xs, ca, nb, B, ys, cb⟩ := f
   dsimp only at *
   generalize xs.length = kx at *
   generalize ys.length = ky at *
   clear hown hlz
   go_upto_region 5 with fail
   refine Kw (P := fun u => Code.wp _ _ _ _ u) (c := [.bool na, .slice A kx ca, .bool nb, .slice B ky cb]) ?_
   intro u hu r0 zn0 hsz
   have c0 : u.cell? ⟨wr.heap.size, 0, none⟩ = some (.bool na) := r0 0 _ rfl
   have c1 : u.cell? ⟨wr.heap.size, 1, none⟩ = some (.slice A kx ca) := r0 1 _ rfl
   have c2 : u.cell? ⟨wr.heap.size, 2, none⟩ = some (.bool nb) := r0 2 _ rfl
   have c3 : u.cell? ⟨wr.heap.size, 3, none⟩ = some (.slice B ky cb) := r0 3 _ rfl
   clear r0 zn0 hsz t0 t1 t2 t3
   go_wp2_with fail
   refine (HF.out u hu).mono ?_
   rintro e v ⟨R, cR, rfl, mR, hv⟩
   have huv := Kb hu hv
   clear c0 c1 c2 c3 HF hv
   go_upto_region 6 with fail
   refine Qh (P := fun u => Code.wp _ _ _ _ u) ?_
   intro x hx q0 q1 zq hsz
   have hwx := Kb huv hx
   have mR := mR.below hx
   have hownx := HO.out.below hwx
   have hbx := Kb hbl hwx
   have hox := hid fun e he => (hlo.out e he).below hwx
   have hlx := Kd q0
   clear zq hsz hu huv hx hwx HO hlo
   go_wp2_with (at_builtin; refine wpList_appM rfl (.tmp 19) (.tmp 21) rfl w.heap.size _ l ⟨z, b2, n2, L2, R, cR⟩ x.heap.size rfl (hownx.below ((Below.refl _ _).alloc (Nat.le_refl _) _)) rfl (K5 rfl) (K7 rfl) (by omega) (by simp; have := hbx.size; omega) ?_; intro v5 w6 hown6 hgr)
   have hal := fun (O : Obj) => (Below.refl x.heap.size x).alloc (Nat.le_refl _) O
   have hb6 := ((hbx.alloc hbx.size _).trans (Hg (hownx.below (hal _)).own hgr (by simp; have := hbx.size; omega)))
   have ho6 : Hid (∀ e ∈ l ++ [⟨z, b2, n2, L2, R, cR⟩], e.ok w6) := fun e he => by
    rcases List.mem_append.1 he with h | h
    ·exact ZE.grownM (hownx.below (hal _)) ((hox.out e h).below (hal _)) hgr
    ·rw [List.mem_singleton] at h
     subst h
     exact ZE.grownM (hownx.below (hal _)) ⟨I2.out, mR.below (hal _)⟩ hgr
   have hz6 := hid (hlz'.out ⟨z, b2, n2, L2, R, cR⟩ rfl)
   have HF := hid (And.intro hown6 hb6)
   clear hgr hal hown6 hb6 hownx hox hbx mR q0 q1 hlz'
   go_roundw
   case rel => exact ⟨j + 1, _, by omega, by go_num, HF.out.1, hz6.out, ho6, HF.out.2⟩
   case measure => simp [intOf]; omega
  ·obtain rfl : j = 9 := by omega
   rw [List.take_of_length_le (by omega)] at hlz
   have HF := hid (And.intro hown (And.intro hlz.out (And.intro hlo.out hbl)))
   clear hown hbl hlz hlo
   go_wp2
   go_ret
   exact ⟨_, l, rfl, HF.out.1, HF.out.2.1, HF.out.2.2.1, HF.out.2.2.2⟩
theorem isW_zero4 (n : Nat) : ∀ x ∈ (Builtin.zeroCells #[.bool false, .slice none 0 0, .bool false, .slice none 0 0] n).toList, isW x = false := by
 intro x hx
 simp only [Builtin.zeroCells, Array.toList_map, List.mem_map] at hx
 obtain ⟨i, _, rfl⟩ := hx
 have h2 : i % 4 = 0 ∨ i % 4 = 1 ∨ i % 4 = 2 ∨ i % 4 = 3 := by omega
 rcases h2 with h | h | h | h <;> (show isW (#[Value.bool false, .slice none 0 0, .bool false, .slice none 0 0][i % 4]!) = false; rw [h]; rfl)
structure OwnF (w : World) (base : Nat) (v : Value) (ts : List Rf) : Prop where
 own : w.ownsRow base 29 4 v ts.length (Kc (zl ts))
 ni : ∀ k, v.ownBlock = some k → ∀ cur e fz, w.heap[k]? = some (.cells cur e fz) → ∀ x ∈ cur.toList, isW x = false
theorem OwnF.nil (w : World) (base : Nat) : OwnF w base (.slice none 0 0) [] := ⟨World.ownsRow_nil _ _ _ _, fun k h => by simp [Value.ownBlock] at h⟩
theorem OwnF.below {w w' : World} {base : Nat} {v : Value} {ts : List Rf} (h : OwnF w base v ts) (hb : Below w.heap.size w w') : OwnF w' base v ts := by
 refine ⟨⟨h.own.1, ?_⟩, fun k hk cur e fz hc => ?_⟩
 ·rcases h.own.2 with h2 | ⟨g, cap, cur, hv, hg, hh, r⟩
  ·exact .inl h2
  ·exact .inr ⟨g, cap, cur, hv, hg, (hb.block g (Array.getElem?_eq_some_iff.1 hh).1).trans hh, r⟩
 ·exact h.ni k hk cur e fz ((hb.block k (h.own.lt k hk).2).symm.trans hc)
theorem OwnF.far {w : World} {base : Nat} {v : Value} {ts : List Rf} (h : OwnF w base v ts) {A : Option Addr} {c : Nat} {xs : List Nat} (m : Mg w A c xs) (hl : 0 < xs.length) : ∀ p, A = some p → some p.block ≠ v.ownBlock := by
 intro p hp he
 obtain ⟨b, o, e, hB, hc⟩ := m.rd hl
 rw [e] at hp
 injection hp with hp
 subst hp
 have h1 := hc 0 hl
 have h2 := h.ni b he.symm
 unfold World.cell? at h1
 simp only [Option.isSome_none, Bool.false_eq_true, if_false] at h1
 split at h1
 ·rename_i cur e' fz hq
  have h3 := h2 cur e' fz hq (lim xs[0]) (by
   obtain ⟨h4, h5⟩ := Array.getElem?_eq_some_iff.1 h1
   rw [← h5]; exact Array.getElem_mem_toList h4)
  simp [lim, isW] at h3
 ·cases h1
theorem Mg.grownF {w w' : World} {base : Nat} {v : Value} {ts : List Rf} (h : OwnF w base v ts) {A : Option Addr} {c : Nat} {xs : List Nat} (m : Mg w A c xs) (hg : w.grownBy w' v.ownBlock) : Mg w' A c xs :=
 ⟨m.cap, m.max, m.ok, fun hl => by
  have hne := h.far m hl
  obtain ⟨b, o, e, hB, hc⟩ := m.rd hl
  exact ⟨b, o, e, Nat.lt_of_lt_of_le hB hg.size, fun j hj => (World.cell?_of_block (a := ⟨b, o + j, none⟩) (hg.block b hB (hne _ e))).trans (hc j hj)⟩⟩
section
variable {P : Program}
theorem run_appG {w : World} (ty : TypeId) (base : Nat) (v : Value) (ts : List Rf) (f : Rf) (g : Nat) (hown : OwnF w base v ts)
  (hr0 : w.rangeAt g 0 (Kc f.ze)) (hl : ts.length ≤ 1000000) (hbase : base ≤ w.heap.size) :
  ∃ v' w', (Builtin.append_ #[88, 88] ty #[v, .slice (some ⟨g, 0, none⟩) 1 1]).run Tryz.prog w = .ok v' w' ∧ OwnF w' base v' (ts ++ [f]) ∧ w.grownBy w' v.ownBlock := by
 obtain ⟨i, hi, hzz⟩ := Option.map_eq_some_iff.1 info26
 simp only [Prod.mk.injEq] at hzz
 obtain ⟨hz, hs2, hb⟩ := hzz
 have hnews : ∀ j u, (Kc f.ze)[j]? = some u → w.cell? ((⟨g, 0, none⟩ : Addr).add j) = some u := fun j u hu => by
  rw [Addr.add_mid]; exact hr0 j u hu
 have hone : ∀ u ∈ (Kc f.ze), u.oneCell' = true := Km f.ze
 have hul : Tryz.prog.underlying 88 = some (.slice 29) := Tryz.underlying88
 obtain ⟨v', w', hrun, h2, h3, _, _⟩ := run_append_own_at (P := Tryz.prog) w base 88 ty 29 i _ 4 64 hul hi hz hs2 hb rfl (by omega) v ts.length (Kc (zl ts)) hown.own ⟨g, 0, none⟩ 1 1 (Kc f.ze) rfl hnews hone (by unfold maxLen; omega) (by omega) hbase
 refine ⟨v', w', hrun, ⟨by rw [List.length_append, zl_app, Qx]; simpa [zl] using h2, ?_⟩, h3⟩
 have hni := hown.ni
 have hge (old : Nat) : ∀ x ∈ (Kc (zl ts) ++ (Kc f.ze) ++ (Builtin.zeroCells #[.bool false, .slice none 0 0, .bool false, .slice none 0 0] old).toList), isW x = false := by
  intro x hx
  rcases List.mem_append.1 hx with hx | hx
  ·rcases List.mem_append.1 hx with hx | hx
   ·exact Xs _ x hx
   ·exact Xs _ x hx
  ·exact isW_zero4 _ x hx
 rcases hown.own.2 with ⟨hv, hn⟩ | ⟨g', cap, cur, hv, hbg, hg, hnc, hcm, hcs, htake⟩
 ·subst hv
  have ht : ts = [] := List.eq_nil_of_length_eq_zero hn
  subst ht
  have hr := run_append_nil (P := Tryz.prog) w 88 ty 29 i _ hul hi hz ⟨g, 0, none⟩ 1 1 (Kc f.ze) (by rw [hs2]; rfl) hnews (by omega) (by omega) (by rw [hb]; omega)
  rw [hrun] at hr
  injection hr with e1 e2
  subst e1 e2
  intro k hk cur e fz hc
  simp only [Value.ownBlock, Option.some.injEq] at hk
  subst hk
  have := heap_alloc_new w.drew (.cells ((Kc f.ze).toArray ++ Builtin.zeroCells #[.bool false, .slice none 0 0, .bool false, .slice none 0 0] (grownCap w 1 0 29 - 1)) 29)
  have hc2 := this.symm.trans hc
  injection hc2 with hc2
  injection hc2 with hc2
  subst hc2
  intro x hx
  refine hge (grownCap w 1 0 29 - 1) x ?_
  simpa [zl, Kc] using hx
 ·subst hv
  by_cases hroom : ts.length + 1 ≤ cap
  ·have hr := run_append_room (P := Tryz.prog) w 88 ty 29 i hul hi g' ts.length cap cur hg ⟨g, 0, none⟩ 1 1 (Kc f.ze) (by rw [hs2]; rfl) hnews hone hroom (by rw [hs2, hcs]; simp [Kf, Rf.ze]; omega)
   rw [hrun] at hr
   injection hr with e1 e2
   subst e1 e2
   intro k hk cur' e fz hc
   simp only [Value.ownBlock, Option.some.injEq] at hk
   subst hk
   have hc2 := (setRow_heap w g' cur _ 29 _ hg).symm.trans hc
   injection hc2 with hc2
   injection hc2 with hc2
   subst hc2
   intro x hx
   have h0 := hni g' rfl _ _ _ hg
   rcases List.mem_append.1 hx with hx | hx
   ·rcases List.mem_append.1 hx with hx | hx
    ·exact h0 x (List.mem_of_mem_take hx)
    ·exact Xs _ x hx
   ·exact h0 x (List.mem_of_mem_drop hx)
  ·have holds := hown.own.cells (g := g') rfl
   have hr := run_append_grow (P := Tryz.prog) w 88 ty 29 i _ hul hi hz ⟨g', 0, none⟩ ts.length cap (Kc (zl ts)) (by rw [hs2]; exact hown.own.1) holds ⟨g, 0, none⟩ 1 1 (Kc f.ze) (by rw [hs2]; rfl) hnews (by omega) (by omega) (by rw [hb]; exact growslice_fits (by omega) (by omega))
   rw [hrun] at hr
   injection hr with e1 e2
   subst e1 e2
   intro k hk cur' e fz hc
   simp only [Value.ownBlock, Option.some.injEq] at hk
   subst hk
   have hc2 := (heap_alloc_new w.drew _).symm.trans hc
   injection hc2 with hc2
   injection hc2 with hc2
   subst hc2
   intro x hx
   refine hge (grownCap w (ts.length + 1) cap 29 - (ts.length + 1)) x ?_
   have e0 : (Value.agg #[Value.bool false, Value.slice none 0 0, Value.bool false, Value.slice none 0 0]).cells = #[Value.bool false, .slice none 0 0, .bool false, .slice none 0 0] := rfl
   rw [e0] at hx
   simpa using hx
theorem wpList_appG {w : World} {ops : Array Oper} {rest : List Oper} {o : Oper} {a : Act} {Q : Exit → Act → World → Prop} (hgd : o.guard = none) (s x : Operand)
  (ho : o.op = .call { callee := .builtin .append, args := #[s, x], argTypes := #[88, 88] })
  (base : Nat) (v : Value) (ts : List Rf) (f : Rf) (g : Nat) (hs : a.eval s = v) (hown : OwnF w base v ts) (hx : a.eval x = .slice (some ⟨g, 0, none⟩) 1 1)
  (hr0 : w.rangeAt g 0 (Kc f.ze)) (hl : ts.length ≤ 1000000) (hbase : base ≤ w.heap.size)
  (h : ∀ v' w', OwnF w' base v' (ts ++ [f]) → w.grownBy w' v.ownBlock → wpList Tryz.prog ops Q rest (a.put o.dst v') w') : wpList Tryz.prog ops Q (o :: rest) a w := by
 refine wpList_plain hgd fun _ hK => ?_
 obtain ⟨v', w', hrun, h2, h3⟩ := run_appG o.type base v ts f g hown hr0 hl hbase
 unfold Oper.wp execOp
 simp only [ho, resolve, invoke, builtin, Sem.run_bind, Sem.run_pure, Result.andThen_ok, List.map_toArray, List.map_cons, List.map_nil, hs, hx, hrun]
 exact hK _ _ (h v' w' h2 h3)
end
theorem OwnF.set {w : World} {base : Nat} {v : Value} {ts : List Rf} (h : OwnF w base v ts) {g i : Nat} {u : Value} (hg : g < base) : OwnF (w.setCell ⟨g, i, none⟩ u) base v ts := by
 have hne : ∀ k, v.ownBlock = some k → (w.setCell ⟨g, i, none⟩ u).heap[k]? = w.heap[k]? := fun k hk => by
  have := (h.own.lt k hk).1
  exact Below.heap_setCell w ⟨g, i, none⟩ u k (by simp; omega)
 refine ⟨⟨h.own.1, ?_⟩, fun k hk cur e fz hc => h.ni k hk cur e fz ((hne k hk).symm.trans hc)⟩
 rcases h.own.2 with h2 | ⟨g', cap, cur, hv, hg', hh, r⟩
 ·exact .inl h2
 ·exact .inr ⟨g', cap, cur, hv, hg', (hne g' (by rw [hv]; rfl)).trans hh, r⟩
theorem ZE.grownF {w w' : World} {base : Nat} {v : Value} {ts : List Rf} (h : OwnF w base v ts) {e : ZE} (m : e.ok w) (hg : w.grownBy w' v.ownBlock) : e.ok w' := ⟨m.i, m.m.grownF h hg⟩
theorem OwnF.form {w : World} {base : Nat} {v : Value} {ts : List Rf} (h : OwnF w base v ts) : ∃ A c, v = .slice A ts.length c ∧ ts.length ≤ c ∧ c ≤ 9223372036854775807 := by
 rcases h.own.2 with ⟨rfl, h0⟩ | ⟨g, cap, cur, rfl, _, hg, hnc, hmx, hcs, htake⟩
 ·exact ⟨none, 0, by rw [h0], by omega, by omega⟩
 ·exact ⟨_, cap, rfl, hnc, by unfold maxLen at hmx; omega⟩
theorem OwnF.rng {w : World} {base : Nat} {v : Value} {ts : List Rf} (h : OwnF w base v ts) (h0 : 0 < ts.length) : ∃ g c, v = .slice (some ⟨g, 0, none⟩) ts.length c ∧ base ≤ g ∧ w.rangeAt g 0 (Kc (zl ts)) ∧ ts.length ≤ c ∧ c ≤ maxLen := Y6 h.own h0
end Go.Proofs.YtdkgbkbbbldliaaGreat
