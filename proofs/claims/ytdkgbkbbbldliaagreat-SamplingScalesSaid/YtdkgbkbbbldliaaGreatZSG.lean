/- A region that draws its order and in which one store hits a cell that the region loads: the condition on the world need hold only until that store; operations that the store does not wait for may come behind it. Conditions: none. -/
import Derived.Test.YtdkgbkbbbldliaaGreatZYI
import Derived.Test.YtdkgbkbbbldliaaGreatZSF
import Derived.Lib.SliceRun
set_option linter.unusedVariables false
set_option linter.unusedSimpArgs false
namespace Go.Proofs.YtdkgbkbbbldliaaGreat
open Go.RowKit Big
section
variable {P : Program} {L : List Oper} {Q : Exit → Act → World → Prop} {md : Region.Mode} {S : World → Prop} {x : Nat}
def Ordt (P : Program) (md : Region.Mode) (ops : Array Oper) (Q : Exit → Act → World → Prop) (S : World → Prop) (x : Nat) : Nat → Array Bool → Act → World → Prop
 | 0, d, a, w => Region.ready md ops d = [] ∧ Q .normal a w
 | n + 1, d, a, w => (Region.ready md ops d = [] → Q .normal a w) ∧ ∀ i ∈ Region.ready md ops d, wpOp P ops Q i (fun b v => ((d.setIfInBounds i true).getD x false = false → S v) ∧ Ordt P md ops Q S x n (d.setIfInBounds i true) b v) a w
theorem Ordt.any {ops : Array Oper} : ∀ (n : Nat) (d : Array Bool) (a : Act) (w : World), Ordt P md ops Q S x n d a w → wpAny P md ops Q n d a w
 | 0, _, _, _, h => h
 | n + 1, _, _, _, h => ⟨h.1, fun i hi => wpOp_mono (fun b v k => Ordt.any n _ b v k.2) (h.2 i hi)⟩
theorem Ya {d : Array Bool} {i j : Nat} (h : i ≠ j) (b : Bool) : (d.setIfInBounds i true).getD j b = d.getD j b := by
 simp only [Array.getD_eq_getD_getElem?, Array.getElem?_setIfInBounds_ne h]
theorem Ordt.firstW {ops : Array Oper} {i : Nat} {o : Oper} {v : Value} (hi : ops[i]? = some o) (hns : Region.noSelect ops = true) (hw : Xe md ops x i = true)
  (hQ : ∀ c a w, Q (.panic c) (a.put o.dst v) w → Q (.panic c) a w) : ∀ (n : Nat) (d : Array Bool) (a : Act) (w : World),
   (∀ j oj, ops[j]? = some oj → j ≠ i → d.getD j true = false → (∀ e ∈ oj.after, Region.binds md e = true → e.on ≠ i) → o.apart ops oj = true) → d.getD x false = false →
   i ∈ Region.ready md ops d → YieldsIf P ops S o v a → S w → Ordt P md ops Q S x n (d.setIfInBounds i true) (a.put o.dst v) w → Ordt P md ops Q S x (n + 1) d a w := by
 have hsel := Region.noSelect_spec hns
 intro n
 induction n with
 | zero =>
  intro d a w _ _ hr hy hS H
  refine ⟨fun h => (by rw [h] at hr; cases hr), fun j hj => ?_⟩
  by_cases hji : j = i
  ·subst hji
   exact hy.wpOp hi hS ⟨fun _ => hS, H⟩
  ·have := ready_mono hj hji
   rw [H.1] at this
   cases this
 | succ n ih =>
  intro d a w hfree hd hr hy hS H
  have hix := Dw hw hr hr
  refine ⟨fun h => (by rw [h] at hr; cases hr), fun j hj => ?_⟩
  by_cases hji : j = i
  ·subst hji
   exact hy.wpOp hi hS ⟨fun _ => hS, H⟩
  ·have hjx := Dw hw hr hj
   have h1 := H.2 j (ready_mono hj hji)
   obtain ⟨hun, oj, hoj, hall⟩ := mem_ready.1 hj
   have hno : ∀ e ∈ oj.after, Region.binds md e = true → e.on ≠ i := fun e he hb heq => by
    have h1 := hall e he hb
    have h0 := (mem_ready.1 hr).1
    rw [heq] at h1
    by_cases hs : i < d.size
    ·simp [hs] at h0 h1
     rw [h0] at h1
     cases h1
    ·simp [hs] at h1
   have h2 := wpOp_putIf hoj (hfree j oj hoj hji hun hno) (fun cs b => hsel i o cs b hi) (fun cs b => hsel j oj cs b hoj) hQ hy h1
   have hfree' : ∀ k ok, ops[k]? = some ok → k ≠ i → (d.setIfInBounds j true).getD k true = false → (∀ e ∈ ok.after, Region.binds md e = true → e.on ≠ i) → o.apart ops ok = true := fun k ok hk hki hu hn => by
    refine hfree k ok hk hki ?_ hn
    by_cases hjk : j = k
    ·subst hjk; exact hun
    ·rwa [getD_set_ne true hjk] at hu
   have hd1 : (d.setIfInBounds j true).getD x false = false := by rw [Ya hjx]; exact hd
   have hd2 : ((d.setIfInBounds i true).setIfInBounds j true).getD x false = false := by rw [Ya hjx, Ya hix]; exact hd
   refine wpOp_mono (fun b u h3 => ⟨fun _ => h3.2.1 hd2, ih _ b u hfree' hd1 (ready_mono hr (Ne.symm hji)) h3.1 (h3.2.1 hd2) ?_⟩) h2
   rw [Array.setIfInBounds_comm _ _ hji]
   exact h3.2.2
theorem Ordt.firstF {ops : Array Oper} {i : Nat} {o : Oper} {v : Value} (hi : ops[i]? = some o) (hns : Region.noSelect ops = true) (hix : i ≠ x)
  (hQ : ∀ c a w, Q (.panic c) (a.put o.dst v) w → Q (.panic c) a w) : ∀ (n : Nat) (d : Array Bool) (a : Act) (w : World),
   (∀ j oj, ops[j]? = some oj → j ≠ i → d.getD j true = false → (∀ e ∈ oj.after, Region.binds md e = true → e.on ≠ i) → o.apart ops oj = true) →
   i ∈ Region.ready md ops d → YieldsIf P ops (fun _ => True) o v a → (d.getD x false = false → S w) → Ordt P md ops Q S x n (d.setIfInBounds i true) (a.put o.dst v) w → Ordt P md ops Q S x (n + 1) d a w := by
 have hsel := Region.noSelect_spec hns
 intro n
 induction n with
 | zero =>
  intro d a w _ hr hy hS H
  refine ⟨fun h => (by rw [h] at hr; cases hr), fun j hj => ?_⟩
  by_cases hji : j = i
  ·subst hji
   exact hy.wpOp hi trivial ⟨fun h => hS (by rwa [Ya hix] at h), H⟩
  ·have := ready_mono hj hji
   rw [H.1] at this
   cases this
 | succ n ih =>
  intro d a w hfree hr hy hS H
  refine ⟨fun h => (by rw [h] at hr; cases hr), fun j hj => ?_⟩
  by_cases hji : j = i
  ·subst hji
   exact hy.wpOp hi trivial ⟨fun h => hS (by rwa [Ya hix] at h), H⟩
  ·have h1 := H.2 j (ready_mono hj hji)
   obtain ⟨hun, oj, hoj, hall⟩ := mem_ready.1 hj
   have hno : ∀ e ∈ oj.after, Region.binds md e = true → e.on ≠ i := fun e he hb heq => by
    have h1 := hall e he hb
    have h0 := (mem_ready.1 hr).1
    rw [heq] at h1
    by_cases hs : i < d.size
    ·simp [hs] at h0 h1
     rw [h0] at h1
     cases h1
    ·simp [hs] at h1
   have h2 := wpOp_putIf hoj (hfree j oj hoj hji hun hno) (fun cs b => hsel i o cs b hi) (fun cs b => hsel j oj cs b hoj) hQ hy h1
   have hfree' : ∀ k ok, ops[k]? = some ok → k ≠ i → (d.setIfInBounds j true).getD k true = false → (∀ e ∈ ok.after, Region.binds md e = true → e.on ≠ i) → o.apart ops ok = true := fun k ok hk hki hu hn => by
    refine hfree k ok hk hki ?_ hn
    by_cases hjk : j = k
    ·subst hjk; exact hun
    ·rwa [getD_set_ne true hjk] at hu
   refine wpOp_mono (fun b u h3 => ?_) h2
   have hsu : (d.setIfInBounds j true).getD x false = false → S u := fun h4 => h3.2.1 (by rw [Array.setIfInBounds_comm _ _ (Ne.symm hji), Ya hix]; exact h4)
   refine ⟨hsu, ih _ b u hfree' (ready_mono hr (Ne.symm hji)) h3.1 hsu ?_⟩
   rw [Array.setIfInBounds_comm _ _ hji]
   exact h3.2.2
theorem Ordt.take {i : Nat} {o : Oper} {v : Value} {n : Nat} {d : Array Bool} {a : Act} {w : World} (hi : L[i]? = some o)
  (hB : (Region.noSelect L.toArray && (Region.free md L.toArray d i && ((Region.ready md L.toArray d).contains i && (Xe md L.toArray x i && (d.getD x false == false))))) = true)
  (hy : YieldsIf P L.toArray S o v a) (hS : S w) (hQ : ∀ c a w, Q (.panic c) (a.put o.dst v) w → Q (.panic c) a w)
  (h : Ordt P md L.toArray Q S x n (d.setIfInBounds i true) (a.put o.dst v) w) : Ordt P md L.toArray Q S x (n + 1) d a w := by
 simp only [Bool.and_eq_true, beq_iff_eq] at hB
 obtain ⟨h1, h2, h3, h4, h6⟩ := hB
 exact Ordt.firstW (by simpa using hi) h1 h4 hQ n d a w (Region.free_spec (by simpa using hi) h2) h6 (by simpa using h3) hy hS h
theorem Ordt.takeF {i : Nat} {o : Oper} {v : Value} {n : Nat} {d : Array Bool} {a : Act} {w : World} (hi : L[i]? = some o)
  (hB : (Region.noSelect L.toArray && (Region.free md L.toArray d i && ((Region.ready md L.toArray d).contains i && (i != x)))) = true)
  (hy : YieldsIf P L.toArray (fun _ => True) o v a) (hS : d.getD x false = false → S w) (hQ : ∀ c a w, Q (.panic c) (a.put o.dst v) w → Q (.panic c) a w)
  (h : Ordt P md L.toArray Q S x n (d.setIfInBounds i true) (a.put o.dst v) w) : Ordt P md L.toArray Q S x (n + 1) d a w := by
 simp only [Bool.and_eq_true, bne_iff_ne] at hB
 obtain ⟨h1, h2, h3, h4⟩ := hB
 exact Ordt.firstF (by simpa using hi) h1 h4 hQ n d a w (Region.free_spec (by simpa using hi) h2) (by simpa using h3) hy hS h
theorem Ordt.step {i : Nat} {o : Oper} {n : Nat} {d : Array Bool} {a : Act} {w : World} (hr : Region.ready md L.toArray d = [i]) (ho : L[i]? = some o)
  (h : ∀ K : Act → World → Prop, Shut (∀ b v, (S v) → (S v → Ordt P md L.toArray Q S x n (d.setIfInBounds i true) b v) → K b v) → if Region.wanted o (yielded L.toArray a.tmps) = true then Oper.wp P o a w K Q else K (a.put o.dst undef) w) :
  Ordt P md L.toArray Q S x (n + 1) d a w := by
 refine ⟨fun h0 => (by rw [hr] at h0; cases h0), fun j hj => ?_⟩
 rw [hr] at hj
 obtain rfl : j = i := by simpa using hj
 exact wpOp_step (by simpa using ho) fun K hK => h K fun b v hS hW => hK b v ⟨fun _ => hS, hW hS⟩
theorem Ordt.store {o : Oper} {n : Nat} {d : Array Bool} {a : Act} {w : World} (hr : Region.ready md L.toArray d = [x]) (ho : L[x]? = some o) (hd : (d.setIfInBounds x true).getD x false = true)
  (h : ∀ K : Act → World → Prop, Shut (∀ b v, Ordt P md L.toArray Q S x n (d.setIfInBounds x true) b v → K b v) → if Region.wanted o (yielded L.toArray a.tmps) = true then Oper.wp P o a w K Q else K (a.put o.dst undef) w) :
  Ordt P md L.toArray Q S x (n + 1) d a w := by
 refine ⟨fun h0 => (by rw [hr] at h0; cases h0), fun j hj => ?_⟩
 rw [hr] at hj
 obtain rfl : j = x := by simpa using hj
 exact wpOp_step (by simpa using ho) fun K hK => h K fun b v hq => hK b v ⟨fun h => (by rw [hd] at h; cases h), hq⟩
theorem Ordt.done {n : Nat} {d : Array Bool} {a : Act} {w : World} (hr : Region.ready md L.toArray d = []) (h : Q .normal a w) : Ordt P md L.toArray Q S x n d a w := by
 cases n with
 | zero => exact ⟨hr, h⟩
 | succ n => exact ⟨fun _ => h, by rw [hr]; simp⟩
theorem Ordt.start {id : Nat} {a : Act} {w : World} (hm : P.follows .mixedOrders = true) (hS : S w.drew)
  (h : S w.drew → Ordt P .any L.toArray Q S x L.length (Array.replicate L.length false) a w.drew) : (Code.region id L.toArray true).wp P Q a w :=
 wp_region_any hm (by simpa using Ordt.any _ _ _ _ (h hS))
end
section
variable {P : Program} {L : List Oper} {Q : Exit → Act → World → Prop} {md : Region.Mode} {S : World → Prop} {x : Nat}
theorem TKt (i : Nat) {oi : Oper} {v : Value} {n : Nat} {d : Array Bool} {a a' : Act} {w : World} (h : Ordt P md L.toArray Q S x n (d.setIfInBounds i true) a' w)
  (hi : L[i]? = some oi := by rfl)
  (hB : (Region.noSelect L.toArray && (Region.free md L.toArray d i && ((Region.ready md L.toArray d).contains i && (Xe md L.toArray x i && (d.getD x false == false))))) = true := by decide +kernel)
  (hy : YieldsIf P L.toArray S oi v a := by (refine Or.inl ⟨by rfl, ?_⟩; intro w_ hSw_; (try dsimp only at hSw_); go_simp; (try with_reducible rfl))) (hS : S w := by assumption)
  (hQ : ∀ c a w, Q (.panic c) (a.put oi.dst v) w → Q (.panic c) a w := by exact fun _ _ _ h => h)
  (ha : a.put oi.dst v = a' := by (first | (simp only [Act.put, Lp0, Lp1, Lp2] <;> rfl) | rfl)) : Ordt P md L.toArray Q S x (n + 1) d a w := by
 subst ha
 exact Ordt.take hi hB hy hS hQ h
end
def prt (N cs : List Int) (i : Nat) : Nat → Int
 | 0 => 0
 | k + 1 => prt N cs i k + N.getD (3 * i + k) 0 * cs.getD k 0
def vsE (N cs : List Int) (i k : Nat) : List Int := (List.range 3).map fun r => if r < i then prt N cs r 3 else if r = i then prt N cs i k else 0
theorem vsE_len (N cs : List Int) (i k : Nat) : (vsE N cs i k).length = 3 := by simp [vsE]
theorem vsE_get {N cs : List Int} {i k r : Nat} (h : r < (vsE N cs i k).length) : (vsE N cs i k)[r] = if r < i then prt N cs r 3 else if r = i then prt N cs i k else 0 := by simp [vsE]
theorem vsE_cur {N cs : List Int} {i k : Nat} (h : i < (vsE N cs i k).length) : (vsE N cs i k)[i] = prt N cs i k := by rw [vsE_get, if_neg (by omega), if_pos rfl]
theorem vsE_set {N cs : List Int} {i k : Nat} : (vsE N cs i k).set i (prt N cs i (k + 1)) = vsE N cs i (k + 1) := by
 refine List.ext_getElem (by simp [vsE]) fun r h1 h2 => ?_
 rw [List.getElem_set]
 split
 ·subst i; exact (vsE_cur h2).symm
 ·rename_i hne
  rw [vsE_get, vsE_get]
  split
  ·rfl
  ·rw [if_neg (Ne.symm hne), if_neg (Ne.symm hne)]
theorem vsE_next {N cs : List Int} {i : Nat} : vsE N cs i 3 = vsE N cs (i + 1) 0 := by
 unfold vsE
 refine List.map_congr_left fun r _ => ?_
 by_cases h : r < i
 ·rw [if_pos h, if_pos (by omega)]
 ·rw [if_neg h]
  by_cases h2 : r = i
  ·subst h2; rw [if_pos rfl, if_pos (by omega)]
  ·rw [if_neg h2, if_neg (by omega)]
   split <;> rfl
theorem vsE_all {N cs : List Int} : vsE N cs 3 0 = [prt N cs 0 3, prt N cs 1 3, prt N cs 2 3] := rfl
theorem prt_bz {N cs : List Int} {a b : Nat} (hN : ∀ j, Bz a (N.getD j 0)) (hc : ∀ j, Bz b (cs.getD j 0)) (i : Nat) : ∀ k, Bz (a + b + k) (prt N cs i k)
 | 0 => Bz.zero
 | k + 1 => (prt_bz hN hc i k).add (((hN _).mul (hc _)).mono (by omega))
theorem prt_row (N : List Int) (i : Nat) (X Y : Int) : prt N [X, Y, 2] i 3 = rwZ N i X Y := by
 show 0 + N.getD (3 * i) 0 * X + N.getD (3 * i + 1) 0 * Y + N.getD (3 * i + 2) 0 * 2 = _
 unfold rwZ
 omega
theorem Ht {N : List Int} {a : Nat} (h : ∀ z ∈ N, Bz a z) (j : Nat) : Bz a (N.getD j 0) := by
 rw [List.getD_eq_getElem?_getD]
 rcases Nat.lt_or_ge j N.length with h1 | h1
 ·rw [List.getElem?_eq_getElem h1]; exact h _ (List.getElem_mem h1)
 ·rw [List.getElem?_eq_none h1]; exact Bz.zero
theorem Xb {z : Int} (h : -9223372036854775808 ≤ z ∧ z ≤ 9223372036854775807) : Bz 64 z := by unfold Bz; omega
theorem T3u : Tryz.prog.underlying 112 = some (.array 3 27) := Tryz.underlying112
set_option maxRecDepth 100000 in
set_option maxHeartbeats 8000000 in
theorem Sexactly_g {N : List Int} (hN : N.length = 9) (hB : ∀ z ∈ N, Bz 1280 z) {A B : Option Addr} {c k d : Nat} {w : World} (hG : GrV w N A c B k d) (x y : Int) (hx : 0 ≤ x ∧ x ≤ 4096) (hy : 0 ≤ y ∧ y ≤ 4096) :
  Calls Tryz.prog 61 #[.agg #[.slice A 9 c, .slice B k d], .int .i64 x, .int .i64 y] w (RetPB w (posP N x y)) := by
 obtain ⟨g0, l, rfl, hr, hlz, hlo⟩ := hG.e
 have hl9 : l.length = 9 := by rw [← List.length_map (·.z), hlz, hN]
 clear hG
 have e1 : IntKind.i64.wrap (2 * x) = 2 * x := by rw [IntKind.wrap_i64]; omega
 have e2 : IntKind.i64.wrap (2 * y) = 2 * y := by rw [IntKind.wrap_i64]; omega
 obtain ⟨X, hX⟩ : ∃ X, 2 * x + 1 = X := ⟨_, rfl⟩
 obtain ⟨Y, hY⟩ : ∃ Y, 2 * y + 1 = Y := ⟨_, rfl⟩
 have e3 : IntKind.i64.wrap (2 * x + 1) = X := by rw [IntKind.wrap_i64]; omega
 have e4 : IntKind.i64.wrap (2 * y + 1) = Y := by rw [IntKind.wrap_i64]; omega
 have hXr : 0 ≤ X ∧ X ≤ 8193 := by omega
 have hYr : 0 ≤ Y ∧ Y ≤ 8193 := by omega
 have hNb := Ht hB
 have hcb : ∀ j, Bz 64 ([X, Y, 2].getD j 0) := Ht fun z hz => Xb (by
  simp only [List.mem_cons, List.not_mem_nil, or_false] at hz
  rcases hz with rfl | rfl | rfl <;> omega)
 have hpb := hid fun i k (hk : k ≤ 3) => (prt_bz hNb hcb i k).mono (show 1280 + 64 + k ≤ 1347 by omega)
 have hmb := hid fun i k => (hNb i).mul (hcb k)
 have hNb := hid hNb
 have hcb := hid hcb
 have hro := hid fun i => prt_row N i X Y
 obtain ⟨P, hP⟩ : ∃ P, posP N x y = P := ⟨_, rfl⟩
 have hPn := hid fun h => (posP_none (N := N) (x := x) (y := y) h).symm.trans hP
 have hPs := hid fun a b c ha hb hc h => (posP_some (N := N) (x := x) (y := y) (a := a) (b := b) (c := c) ha hb hc h).symm.trans hP
 rw [hX, hY] at hPn hPs
 rw [hP]
 obtain ⟨bX, nX, LX, IX⟩ := iz X
 obtain ⟨bY, nY, LY, IY⟩ := iz Y
 obtain ⟨b2, n2, L2, I2⟩ := iz (2 : Int)
 have HX := hid fun (W : World) => Q7 (w := W) IX.out (by omega) (by omega)
 have HY := hid fun (W : World) => Q7 (w := W) IY.out (by omega) (by omega)
 have H2 := hid fun (W : World) => Q7 (w := W) I2.out (by omega) (by omega)
 have HL := hid fun (W : World) (h : Below w.heap.size w W) => And.intro (Ke hr h) (fun e (he : e ∈ l) => (hlo e he).below h)
 have hlz := hid fun j (hj : j < l.length) => (show l[j].z = N.getD j 0 by
  have h1 : N[j]? = some l[j].z := by rw [← hlz, List.getElem?_map, List.getElem?_eq_getElem hj]; rfl
  rw [List.getD_eq_getElem?_getD, h1]; rfl)
 have hgw : g0 < w.heap.size := Kd (Jn hr (show 0 < l.length by omega)).1
 clear hr hlo hN hB hX hY hP hx hy
 go_enter Tryz.func61, Tryz.ntmps61
 go_upto_region 1 with fail
 refine Jc (P := fun u => Code.wp _ _ _ _ u) (c0 := [.slice (some ⟨g0, 0, none⟩) 9 c, .slice B k d]) (c1 := [.int .i64 0, .int .i64 0]) ?_
 intro u HB r0 r1 zn0 zn1 hsz
 clear hsz zn0
 go_wp2_with fail
 refine (HX.out u).mono ?_
 rintro e w1 ⟨R1, c1, rfl, m1, h1⟩
 have HB := Kb HB h1
 have r0 := Ke r0 h1
 have r1 := Ke r1 h1
 have zn1 := zn1.below h1
 go_wp2_with fail
 refine (HY.out w1).mono ?_
 rintro e w2 ⟨R2, c2, rfl, m2, h2⟩
 have HB := Kb HB h2
 have r0 := Ke r0 h2
 have r1 := Ke r1 h2
 have zn1 := zn1.below h2
 have m1 := m1.below h2
 go_wp2_with fail
 refine (H2.out w2).mono ?_
 rintro e w3 ⟨R3, c3, rfl, m3, h3⟩
 have HB := Kb HB h3
 have r0 := Ke r0 h3
 have r1 := Ke r1 h3
 have zn1 := zn1.below h3
 have m1 := m1.below h3
 have m2 := m2.below h3
 clear HX HY H2 h1 h2 h3
 go_upto_region 2 with fail
 refine Kw (P := fun u => Code.wp _ _ _ _ u) (c := [.bool bX, .slice R1 nX c1, .bool bY, .slice R2 nY c2, .bool b2, .slice R3 n2 c3]) ?_
 intro uc h3 rc zc hsz
 have hc3 : ∃ lc : List ZE, lc.length = 3 ∧ uc.rangeAt w3.heap.size 0 (Kc lc) ∧ ∀ k (h : k < lc.length), lc[k].z = [X, Y, 2].getD k 0 ∧ lc[k].ok uc := by
  refine ⟨[⟨X, bX, nX, LX, R1, c1⟩, ⟨Y, bY, nY, LY, R2, c2⟩, ⟨2, b2, n2, L2, R3, c3⟩], rfl, rc, fun k h => ?_⟩
  match k, h with
  | 0, _ => exact ⟨rfl, IX.out, m1.below h3⟩
  | 1, _ => exact ⟨rfl, IY.out, m2.below h3⟩
  | 2, _ => exact ⟨rfl, I2.out, m3.below h3⟩
 clear rc
 obtain ⟨lc, hl3, rc, hlc⟩ := hc3
 have HU := hid fun (W : World) (h : Below uc.heap.size uc W) => And.intro (Kb (Kb HB h3) h) (And.intro (Ke (Ke r0 h3) h) (And.intro (Ke (Ke r1 h3) h) (And.intro ((zn1.below h3).below h) (And.intro (Ke rc h) (HL.out W (Kb (Kb HB h3) h))))))
 have hlc := hid fun (W : World) (h : Below uc.heap.size uc W) k (hk : k < lc.length) => And.intro (hlc k hk).1 ((hlc k hk).2.below h)
 have hwg := (Kb HB h3).size
 have hzl := (zn1.below h3).lt
 have hgc := zc.lt
 obtain ⟨gc, hgc'⟩ : ∃ gc, gc = w3.heap.size := ⟨_, rfl⟩
 rw [← hgc'] at HU hgc ⊢
 clear hsz zc rc r0 r1 zn1 HB h3 m1 m2 m3 IX IY I2 HL hgc'
 go_upto_region 3 with fail
 refine Kw (P := fun u => Code.wp _ _ _ _ u) (c := [.bool false, .slice none 0 0, .bool false, .slice none 0 0, .bool false, .slice none 0 0]) ?_
 intro u3 h3 rv zv hsz
 have hF : Fil uc [] uc.heap.size (vsE N [X, Y, 2] 0 0) u3 := ⟨h3, by simp, zv, Nat.le_refl _, [ZE.zero, ZE.zero, ZE.zero], rv, fun e he => by
  simp only [List.mem_cons, List.not_mem_nil, or_false, or_self] at he; rw [he]; exact ZE.zero_ok _, rfl⟩
 clear h3 rv zv hsz
 obtain ⟨gv, hgv⟩ : ∃ gv, gv = uc.heap.size := ⟨_, rfl⟩
 rw [← hgv] at hF hgc hzl hwg ⊢
 replace hgv := hid hgv
 have hi6 := hid (show (Tryz.prog.info? 112).map (·.size) = some (Kc lc).length by rw [Kf, hl3]; kernel_rfl)
 go_wp2
 go_loopw [25] (fun s25 wr => ∃ i : Nat, i ≤ 3 ∧ s25 = .int .i64 i ∧ Fil uc [] gv (vsE N [X, Y, 2] i 0) wr) (fun s25 _ => 3 - (intOf s25).toNat)
 case atStart => exact ⟨0, by omega, rfl, hF⟩
 case round =>
  obtain ⟨i, hi, rfl, hS⟩ := hrel
  clear hF
  by_cases hi3 : i < 3
  ·have hii : (i : Int) < 3 := by omega
   obtain ⟨HB, r0, r1, zn1, rc, hle⟩ := HU.out wr hS.b
   clear r0 r1 zn1 hle
   go_wp2_with (first | refine wpList_load_mid (by rfl) _ _ (by rfl) gc 0 (by rfl) (Kc lc) _ rc T3u (by rfl) hi6.out ?_ | fail)
   clear rc HB
   go_loopw [29] (fun s29 wr => ∃ k : Nat, k ≤ 3 ∧ s29 = .int .i64 k ∧ Fil uc [] gv (vsE N [X, Y, 2] i k) wr) (fun s29 _ => 3 - (intOf s29).toNat)
   case atStart => exact ⟨0, by omega, rfl, hS⟩
   case round =>
    obtain ⟨k, hk, rfl, hS⟩ := hrel
    by_cases hk3 : k < 3
    ·have hki : (k : Int) < 3 := by omega
     obtain ⟨HB, r0, r1, zn1, rc, hrl, hol⟩ := HU.out wr hS.b
     obtain ⟨hz1, ho1⟩ := hlc.out wr hS.b k (by omega)
     have hix := Zr wr lc 112 3 hl3 T3u k (by omega)
     obtain ⟨t0, t1⟩ := Jn hrl (j := 3 * i + k) (by omega)
     have hz2 := hlz.out (3 * i + k) (by omega)
     have ho2 := hol (l[3 * i + k]'(by omega)) (List.getElem_mem _)
     have q0 : wr.cell? ⟨w.heap.size, 0, none⟩ = some (.slice (some ⟨g0, 0, none⟩) 9 c) := r0 0 _ rfl
     have hvl := vsE_len N [X, Y, 2] i k
     obtain ⟨ed, hed, hod, d0, d1⟩ := hS.cell (j := i) (by omega)
     rw [vsE_cur] at hed
     have hb1 := hcb.out k
     have hb2 := hNb.out (3 * i + k)
     have hb3 := hpb.out i k (by omega)
     have hb4 := hpb.out i (k + 1) (by omega)
     have hb5 := hmb.out (3 * i + k) k
     rw [← hz1] at hb1 hb5
     rw [← hz2] at hb2 hb5
     rw [← hed] at hb3
     have hst : Hid ((vsE N [X, Y, 2] i k).set i (prt N [X, Y, 2] i (k + 1)) = vsE N [X, Y, 2] i (k + 1)) := vsE_set
     have hsum : ed.z + (l[3 * i + k]'(by omega)).z * (lc[k]'(by omega)).z = prt N [X, Y, 2] i (k + 1) := by rw [hed, hz1, hz2]; rfl
     generalize prt N [X, Y, 2] i (k + 1) = zv at *
     generalize (l[3 * i + k]'(by omega)) = f at *
     generalize (lc[k]'(by omega)) = h at *
     obtain ⟨pz, hpz⟩ : ∃ pz, f.z * h.z = pz := ⟨_, rfl⟩
     rw [hpz] at hb5 hsum
     obtain ⟨bp_, np_, Lp_, Ip⟩ := iz pz
     obtain ⟨bz_, nz_, Lz_, Iz_⟩ := iz zv
     have HM := hid fun (W : World) (hW : Below wr.heap.size wr W) => Mul_g (w := W) ho2.i ho1.i Ip.out (J7 (hb5.ft (by omega))) (ho2.m.below hW) (ho1.m.below hW) (hb2.ft (by omega)) (hb1.ft (by omega)) hpz
     have HA := hid fun (W : World) (hW : Below wr.heap.size wr W) (R : Option Addr) (cc : Nat) (m : Mg W R cc Lp_) => Add_g (w := W) hod.i Ip.out Iz_.out (J7 (hb4.ft (by omega))) (hod.m.below hW) m (hb3.ft (by omega)) (hb5.ft (by omega)) hsum
     have HS := hid hS
     have lt0 := Kd t0
     have ltd := Kd d0
     have fd := hS.zm.fr
     have hsw := HB.size
     obtain ⟨fz_, fb, fn, fx, fA, fc⟩ := f
     obtain ⟨hz_, hb_, hn_, hx_, hA_, hc_⟩ := h
     obtain ⟨dz, db, dn, dx, dA, dc⟩ := ed
     dsimp only at *
     have a1 : IntKind.i64.wrap (3 * (i : Int)) = 3 * (i : Int) := by rw [IntKind.wrap_i64]; omega
     have a2 : IntKind.i64.wrap (3 * (i : Int) + (k : Int)) = 3 * (i : Int) + (k : Int) := by rw [IntKind.wrap_i64]; omega
     have a3 : (3 * (i : Int) + (k : Int)).toNat = 3 * i + k := by omega
     have a4 : (0 : Int) ≤ 3 * (i : Int) + (k : Int) := by omega
     have a5 : 3 * (i : Int) + (k : Int) < 9 := by omega
     clear hS hz1 hz2 ho1 ho2 hed hod hb1 hb2 hb3 hb4 hb5 hsum hpz hrl hol rc r0 r1 zn1 hvl
     go_upto_region 9 with fail
     clear hix
     refine Qh (P := fun u => Code.wp _ _ _ _ u) ?_
     intro u1 hu1 s0 s1 zs_ hsz
     have HBx := Kb HB hu1
     have t0 := Ka hu1 t0
     have t1 := Ka hu1 t1
     have q0 := Ka hu1 q0
     have d0 := Ka hu1 d0
     have d1 := Ka hu1 d1
     clear hsz zs_
     have lt_t0 := Kd t0
     have lt_q0 := Kd q0
     have lt_s0 := Kd s0
     go_cut [13, 14] (fun s1 s2 wx => s2 = .int .i64 (0) ∧ ∃ (g : Nat) (R : Option Addr) (c : Nat), s1 = .pointer (some ⟨g, 0, none⟩) ∧ Below u1.heap.size u1 wx ∧ Mg wx R c Lp_ ∧ wx.cell? ⟨g, 0, none⟩ = some (.bool bp_) ∧ wx.cell? ⟨g, 1, none⟩ = some (.slice R np_ c))
     case first =>
      go_region_held3 (fun w' => (w'.cell? ⟨w.heap.size, 0, none⟩ = some (.slice (some ⟨g0, 0, none⟩) 9 c)) ∧ (w'.cell? ⟨g0, (3 * i + k) * 2, none⟩ = some (.bool fb) ∧ w'.cell? ⟨g0, (3 * i + k) * 2 + 1, none⟩ = some (.slice fA fn fc)) ∧ (w'.cell? ⟨wr.heap.size, 0, none⟩ = some (.bool hb_) ∧ w'.cell? ⟨wr.heap.size, 1, none⟩ = some (.slice hA_ hn_ hc_))) (first | ((try dsimp only); repeat' (first | with_reducible assumption | apply And.intro | (with_reducible refine Kk ?_) | (with_reducible refine Kn ?_) | (with_reducible refine Kh (by first | omega | (simp only [World.size_alloc, World.size_setCell, World.size_drew]; done) | (simp only [World.size_alloc, World.size_setCell, World.size_drew]; omega)) ?_) | (with_reducible refine Ka (W := u1) ?_ ?_) | fail))) (first | (go_at_call 96; (with_reducible refine (HM.out _ (Kb hu1 BG)).mono ?_); rintro e y1 ⟨R2, c2, rfl, m2, hq_⟩; have qy1 : Below u1.heap.size u1 y1 := Kb BG hq_; obtain ⟨hc10, hf10⟩ := bcell hq_; have hz10 := hq_.size; (try simp only [World.size_alloc, World.size_drew] at hz10); have hs10 := qy1.size; (try have hx1 : u1.heap.size < y1.heap.size := by omega)))
      all_goals
       go_wp2_with fail
       go_meet
      all_goals
       go_light
       refine ⟨rfl, _, R2, c2, rfl, BG, ?_, ?_, ?_⟩
      any_goals ((repeat' (first | with_reducible assumption | (with_reducible refine Mg.alloc ?_) | (with_reducible refine Mg.setB ?_ ?_) | (with_reducible refine Mg.setS ?_ ?_) | (with_reducible refine K5 (by first | omega | (simp only [World.size_alloc, World.size_setCell, World.size_drew]; done) | (simp only [World.size_alloc, World.size_setCell, World.size_drew]; omega))) | (with_reducible refine K7 (by first | omega | (simp only [World.size_alloc, World.size_setCell, World.size_drew]; done) | (simp only [World.size_alloc, World.size_setCell, World.size_drew]; omega))) | (with_reducible refine Kk ?_) | (with_reducible refine K6 (by omega) ?_) | (with_reducible refine Kh (by first | omega | (simp only [World.size_alloc, World.size_setCell, World.size_drew]; done) | (simp only [World.size_alloc, World.size_setCell, World.size_drew]; omega)) ?_) | (with_reducible refine Ug ?_) | (with_reducible refine Ui ?_) | (with_reducible refine Kn ?_) | (with_reducible refine (hc11 _ _ (by first | omega | (simp only [World.size_alloc, World.size_setCell, World.size_drew]; done) | (simp only [World.size_alloc, World.size_setCell, World.size_drew]; omega))).trans ?_) | (with_reducible refine (hc10 _ _ (by first | omega | (simp only [World.size_alloc, World.size_setCell, World.size_drew]; done) | (simp only [World.size_alloc, World.size_setCell, World.size_drew]; omega))).trans ?_) | fail)); done)
     case rest =>
      obtain ⟨rfl, g9, R9, c9, rfl, hx9, m9, w0_, w1_⟩ := hcut
      have hwc := Kb hu1 hx9
      have d0 := Ka hx9 d0
      have d1 := Ka hx9 d1
      have ltd := Kd d0
      have ltp := Kd w0_
      clear t0 t1 q0 s0 s1 lt0 fd HM lt_t0 lt_q0 lt_s0
      go_upto_region 10 with fail
      refine Ordt.start (x := 10) (S := fun w' => (w'.cell? ⟨gv, i * 2, none⟩ = some (.bool db) ∧ w'.cell? ⟨gv, i * 2 + 1, none⟩ = some (.slice dA dn dc)) ∧ (w'.cell? ⟨g9, 0, none⟩ = some (.bool bp_) ∧ w'.cell? ⟨g9, 1, none⟩ = some (.slice R9 np_ c9))) (by kernel_rfl) ?_ (fun hHeld => ?_)
      ·exact ⟨⟨d0, d1⟩, ⟨w0_, w1_⟩⟩
      refine' TKt 0 ?_
      refine' TKt 1 ?_
      refine' TKt 2 ?_
      refine' TKt 3 ?_
      refine' TKt 4 ?_
      refine' Ordt.step (i := 5) (by decide +kernel) rfl (fun K hK => ?_)
      go_simp
      (go_at_call 97; (with_reducible refine (HA.out _ (Kb hwc BG) _ _ (m9.below BG)).mono ?_); rintro e y2 ⟨R5, c5, rfl, m5, hq2⟩; have qy2 : Below wc.heap.size wc y2 := Kb BG hq2; have d0 := Ka qy2 d0; have d1 := Ka qy2 d1; have fz := (HS.out.zm.below (Kb hwc qy2)).fr)
      (try go_wp2_with fail)
      refine' HKa hK (by (first | ((try dsimp only); repeat' (first | with_reducible assumption | apply And.intro | (with_reducible refine Kk ?_) | (with_reducible refine Kn ?_) | (with_reducible refine Kh (by omega) ?_) | (with_reducible refine Kp (by omega) ?_) | (with_reducible refine Ka (W := wc) ?_ ?_) | fail)))) (fun hHeld => ?_)
      clear hK K
      refine' Ordt.step (i := 6) (by decide +kernel) rfl (fun K hK => ?_)
      go_simp
      skip
      (try go_wp2_with fail)
      refine' HKa hK (by (first | ((try dsimp only); repeat' (first | with_reducible assumption | apply And.intro | (with_reducible refine Kk ?_) | (with_reducible refine Kn ?_) | (with_reducible refine Kh (by omega) ?_) | (with_reducible refine Kp (by omega) ?_) | (with_reducible refine Ka (W := wc) ?_ ?_) | fail)))) (fun hHeld => ?_)
      clear hK K
      refine' TKt 7 ?_
      refine' Ordt.takeF (i := 8) rfl (by decide +kernel) (Or.inl ⟨by rfl, ?_⟩) (fun _ => by assumption) (fun _ _ _ h => h) ?_
      rotate_left 1
      ·(intro w_ _; go_simp; (try with_reducible rfl))
      (try simp only [Act.put, Lp0, Lp1, Lp2])
      refine' TKt 9 ?_
      refine' Ordt.store (by decide +kernel) rfl (by decide +kernel) (fun K hK => ?_)
      go_simp
      (try go_wp2_with fail)
      refine hK.out _ _ ?_
      clear hK K
      (try simp only [Act.put, Lp0, Lp1, Lp2])
      refine Ordt.done (by decide +kernel) ?_
      have hF5 := (HS.out.below (Kb hwc qy2)).set (j := i) (by rw [vsE_len]; omega) Iz_.out m5
      rw [hst.out] at hF5
      have hF5 := hid hF5
      go_wp2
      go_roundw
      case rel => exact ⟨k + 1, by omega, by go_num, hF5.out⟩
      case measure => simp [intOf]; omega
    ·obtain rfl : k = 3 := by omega
     rw [vsE_next] at hS
     go_wp2
     go_roundw
     case rel => exact ⟨i + 1, by omega, by go_num, hS⟩
     case measure => simp [intOf]; omega
  ·obtain rfl : i = 3 := by omega
   obtain ⟨HB, r0, r1, zn1, rc, hrl, hol⟩ := HU.out wr hS.b
   rw [vsE_all, hro.out, hro.out, hro.out] at hS
   obtain ⟨f0, hf0, of0, s0, s1⟩ := hS.cell (j := 0) (by simp)
   obtain ⟨f1, hf1, of1, s2, s3⟩ := hS.cell (j := 1) (by simp)
   obtain ⟨f2, hf2, of2, s4, s5⟩ := hS.cell (j := 2) (by simp)
   simp only [Nat.zero_mul, Nat.reduceMul, Nat.reduceAdd, List.getElem_cons_zero, List.getElem_cons_succ] at s0 s1 s2 s3 s4 s5 hf0 hf1 hf2
   have hb0 := hpb.out 0 3 (by omega)
   have hb1 := hpb.out 1 3 (by omega)
   have hb2 := hpb.out 2 3 (by omega)
   rw [hro.out] at hb0 hb1 hb2
   have hPn := hid fun h => hPn.out h
   have hPs := hid fun h => hPs.out f0.z f1.z f2.z hf0.symm hf1.symm hf2.symm h
   rw [← hf0] at hb0
   rw [← hf1] at hb1
   rw [← hf2] at hb2 hPn
   have lts := Kd s0
   clear hS hf0 hf1 hf2 rc hrl hol r0 HU hlc hpb hmb hNb hcb hro hi6 hlz
   by_cases h0 : f2.z = 0
   ·have hn0 := of2.i.zero.2 h0
    obtain ⟨z2_, b2_, n2_, x2_, A2_, c2_⟩ := f2
    dsimp only at hn0 h0 s4 s5
    have HR := hid (hPn.out h0).symm
    subst hn0
    clear hPn hPs of0 of1 of2 hb0 hb1 hb2 s0 s1 s2 s3
    have k0 : (wr).cell? ⟨w.heap.size + 1, 0, none⟩ = some (.int .i64 0) := r1 0 _ rfl
    have k1 : (wr).cell? ⟨w.heap.size + 1, 1, none⟩ = some (.int .i64 0) := r1 1 _ rfl
    have ltk := Kd k0
    have fk := zn1.fr
    have HBf := hid (Kg (Kg HB (show w.heap.size ≤ w.heap.size + 1 by omega) 0 (.int .i64 (0))) (show w.heap.size ≤ w.heap.size + 1 by omega) 1 (.int .i64 (0)))
    clear r1 zn1 HB
    go_wp2
    refine bodyPost_ret (v := .tuple #[.agg #[.int .i64 (0), .int .i64 (0)], .bool false]) ?_ rfl ?_
    ·simp [results, Tryz.results61, go_sem, k0, k1]
    ·(first | rw [HR.out] | skip)
     exact ⟨rfl, HBf.out⟩
   ·have hn0 : ¬ f2.n = 0 := fun h => h0 (of2.i.zero.1 h)
    have HR := hid (hPs.out h0).symm
    have HQ0 := hid fun (W : World) (h : Below wr.heap.size wr W) => Ur of0.i of2.i (of0.m.below h) (of2.m.below h) (hb0.ft (by omega)) (hb2.ft (by omega)) h0
    have HQ1 := hid fun (W : World) (h : Below wr.heap.size wr W) => Ur of1.i of2.i (of1.m.below h) (of2.m.below h) (hb1.ft (by omega)) (hb2.ft (by omega)) h0
    generalize clP (Int.fdiv f0.z f2.z) = qx at *
    generalize clP (Int.fdiv f1.z f2.z) = qy at *
    obtain ⟨z0_, b0_, n0_, x0_, A0_, c0_⟩ := f0
    obtain ⟨z1_, b1_, n1_, x1_, A1_, c1_⟩ := f1
    obtain ⟨z2_, b2_, n2_, x2_, A2_, c2_⟩ := f2
    dsimp only at *
    clear hPn hPs of0 of1 of2 hb0 hb1 hb2 h0
    have k0 : wr.cell? ⟨w.heap.size + 1, 0, none⟩ = some (.int .i64 0) := r1 0 _ rfl
    have k1 : wr.cell? ⟨w.heap.size + 1, 1, none⟩ = some (.int .i64 0) := r1 1 _ rfl
    have hn0' : ¬ (n2_ : Int) = 0 := by omega
    have fk := zn1.fr
    have ltk := Kd k0
    have hBB := Below.refl wr.heap.size wr
    go_upto_region 15 with fail
    go_region_held3 (fun w' => (w'.cell? ⟨gv, 0, none⟩ = some (.bool b0_) ∧ w'.cell? ⟨gv, 1, none⟩ = some (.slice A0_ n0_ c0_)) ∧ (w'.cell? ⟨gv, 2, none⟩ = some (.bool b1_) ∧ w'.cell? ⟨gv, 3, none⟩ = some (.slice A1_ n1_ c1_)) ∧ (w'.cell? ⟨gv, 4, none⟩ = some (.bool b2_) ∧ w'.cell? ⟨gv, 5, none⟩ = some (.slice A2_ n2_ c2_))) (first | ((try dsimp only); repeat' (first | with_reducible assumption | apply And.intro | (with_reducible refine Kk ?_) | (with_reducible refine Kn ?_) | (with_reducible refine Kh (by omega) ?_) | (with_reducible refine Kp (by omega) ?_) | (with_reducible refine Ka (W := wr) ?_ ?_) | fail))) (first | (go_at_call 98; (with_reducible refine (HQ0.out _ BG).mono ?_); rintro e y1 ⟨rfl, hq_⟩; have qy1 : Below wr.heap.size wr y1 := Kb BG hq_) | (go_at_call 98; (with_reducible refine (HQ1.out _ BG).mono ?_); rintro e y2 ⟨rfl, hq_⟩; have qy2 : Below wr.heap.size wr y2 := Kb BG hq_; have k0 := Ka qy2 k0; have k1 := Ka qy2 k1; have ltk := Kd k0; have fk := (zn1.below qy2).fr))
    all_goals
     have HBf := hid (Kg (Kg (Kb HB qy2) (show w.heap.size ≤ w.heap.size + 1 by omega) 0 (.int .i64 qx)) (show w.heap.size ≤ w.heap.size + 1 by omega) 1 (.int .i64 qy))
     clear r1 zn1 HB
     go_wp2
     refine bodyPost_ret (v := .tuple #[.agg #[.int .i64 qx, .int .i64 qy], .bool true]) ?_ rfl ?_
     ·simp [results, Tryz.results61, go_sem, k0, k1]
     ·rw [HR.out]
      exact ⟨rfl, HBf.out⟩
def rsE (N : List Int) (X Y : Int) (i : Nat) : List Value := (List.range 3).map fun r => iv (if r < i then rwZ N r X Y else 0)
theorem rsE_len (N : List Int) (X Y : Int) (i : Nat) : (rsE N X Y i).length = 3 := by simp [rsE]
theorem rsE_set (N : List Int) (X Y : Int) (i : Nat) : (rsE N X Y i).set i (iv (rwZ N i X Y)) = rsE N X Y (i + 1) := by
 refine List.ext_getElem (by simp [rsE]) fun r h1 h2 => ?_
 rw [List.getElem_set]
 simp only [rsE, List.getElem_map, List.getElem_range]
 by_cases h : i = r
 ·subst h; rw [if_pos rfl, if_pos (by omega)]
 ·rw [if_neg h]
  by_cases h3 : r < i
  ·rw [if_pos h3, if_pos (by omega)]
  ·rw [if_neg h3, if_neg (by omega)]
theorem rsE_all (N : List Int) (X Y : Int) : rsE N X Y 3 = [iv (rwZ N 0 X Y), iv (rwZ N 1 X Y), iv (rwZ N 2 X Y)] := rfl
set_option maxRecDepth 100000 in
set_option maxHeartbeats 8000000 in
theorem Sat_g {N : List Int} (hN : N.length = 9) (hB : ∀ z ∈ N, Bz 1280 z) {A B : Option Addr} {c k d : Nat} {w : World} (hG : GrV w N A c B k d) (x y : Int) (hx : 0 ≤ x ∧ x ≤ 4096) (hy : 0 ≤ y ∧ y ≤ 4096) :
  Calls Tryz.prog 34 #[.agg #[.slice A 9 c, .slice B k d], .int .i64 x, .int .i64 y] w (RetPB w (posP N x y)) := by
 have HE := hid fun (W : World) (h : Below w.heap.size w W) => Sexactly_g hN hB (hG.below h) x y hx hy
 rcases hG.s with ⟨rfl, rfl, rfl⟩ | ⟨b, rfl, rfl, hd1, hd2, hr, hsm⟩
 ·obtain ⟨⟨px, py, pt⟩, hP⟩ : ∃ P, posP N x y = P := ⟨_, rfl⟩
  rw [hP] at HE ⊢
  clear hN hB hG hx hy hP
  have hnil := fun (W : World) => Lib.run_eql_slice_nil (P := Tryz.prog) W 68 3 none 0 0 0 0 Tryz.underlying68
  go_enter Tryz.func34, Tryz.ntmps34
  go_upto_region 1 with fail
  refine Jc (P := fun u => Code.wp _ _ _ _ u) (c0 := [.slice A 9 c, .slice none 0 0]) (c1 := [.int .i64 0, .int .i64 0]) ?_
  intro u HB r0 r1 zn0 zn1 hsz
  clear hsz zn0
  have q0 : u.cell? ⟨w.heap.size, 0, none⟩ = some (.slice A 9 c) := r0 0 _ rfl
  have q1 : u.cell? ⟨w.heap.size, 1, none⟩ = some (.slice none 0 0) := r0 1 _ rfl
  have ltq := Kd q0
  clear r0
  go_wp2_with fail
  refine (HE.out u HB).mono ?_
  rintro e v ⟨rfl, hv⟩
  have HB := Kb HB hv
  have r1 := Ke r1 hv
  have zn1 := zn1.below hv
  clear q0 q1 ltq HE hv
  dsimp only
  have k0 : (v).cell? ⟨w.heap.size + 1, 0, none⟩ = some (.int .i64 0) := r1 0 _ rfl
  have k1 : (v).cell? ⟨w.heap.size + 1, 1, none⟩ = some (.int .i64 0) := r1 1 _ rfl
  have ltk := Kd k0
  have fk := zn1.fr
  have HBf := hid (Kg (Kg HB (show w.heap.size ≤ w.heap.size + 1 by omega) 0 (.int .i64 (px))) (show w.heap.size ≤ w.heap.size + 1 by omega) 1 (.int .i64 (py)))
  clear r1 zn1 HB
  go_wp2
  refine bodyPost_ret (v := .tuple #[.agg #[.int .i64 (px), .int .i64 (py)], .bool pt]) ?_ rfl ?_
  ·simp [results, Tryz.results34, go_sem, k0, k1]
  ·(first | rw [HR.out] | skip)
   exact ⟨rfl, HBf.out⟩
 ·clear HE
  have e1 : IntKind.i64.wrap (2 * x) = 2 * x := by rw [IntKind.wrap_i64]; omega
  have e2 : IntKind.i64.wrap (2 * y) = 2 * y := by rw [IntKind.wrap_i64]; omega
  obtain ⟨X, hX⟩ : ∃ X, 2 * x + 1 = X := ⟨_, rfl⟩
  obtain ⟨Y, hY⟩ : ∃ Y, 2 * y + 1 = Y := ⟨_, rfl⟩
  have e3 : IntKind.i64.wrap (2 * x + 1) = X := by rw [IntKind.wrap_i64]; omega
  have e4 : IntKind.i64.wrap (2 * y + 1) = Y := by rw [IntKind.wrap_i64]; omega
  have hXr : 0 ≤ X ∧ X ≤ 8193 := by omega
  have hYr : 0 ≤ Y ∧ Y ≤ 8193 := by omega
  obtain ⟨P, hP⟩ : ∃ P, posP N x y = P := ⟨_, rfl⟩
  have hPn := hid fun h => (posP_none (N := N) (x := x) (y := y) h).symm.trans hP
  have hPs := hid fun a b c ha hb hc h => (posP_some (N := N) (x := x) (y := y) (a := a) (b := b) (c := c) ha hb hc h).symm.trans hP
  rw [hX, hY] at hPn hPs
  rw [hP]
  have hrow := hid fun i (hi : i < 3) => (show ∃ (n0 n1 n2 p q s : Int) (h0 : 3 * i + 2 < N.length), N[3 * i] = n0 ∧ N[3 * i + 1] = n1 ∧ N[3 * i + 2] = n2 ∧ IntKind.i64.wrap (n0 * X) = p ∧ IntKind.i64.wrap (n1 * Y) = q ∧ IntKind.i64.wrap (p + q) = s ∧ IntKind.i64.wrap (2 * n2) = 2 * n2 ∧ IntKind.i64.wrap (s + 2 * n2) = rwZ N i X Y ∧ (rwZ N i X Y).natAbs ≤ 4611686018427387904 by
   have h2 : 3 * i + 2 < N.length := by omega
   refine ⟨_, _, _, N[3 * i] * X, N[3 * i + 1] * Y, _, h2, rfl, rfl, rfl, ?_, ?_, rfl, ?_, ?_, ?_⟩
   all_goals
    have m0 := mul_in (hsm N[3 * i] (List.getElem_mem _)) hXr
    have m1 := mul_in (hsm N[3 * i + 1] (List.getElem_mem _)) hYr
    have m2 := hsm N[3 * i + 2] (List.getElem_mem _)
    unfold smI at m2
    try rw [rwZ_at h2]
    generalize N[3 * i] * X = p at *
    generalize N[3 * i + 1] * Y = q at *
    generalize N[3 * i + 2] = r at *
    try simp only [IntKind.wrap_i64]
    omega)
  have HL := hid fun (W : World) (h : Below w.heap.size w W) j (hj : j < N.length) => (show W.cell? ⟨b, j, none⟩ = some (.int .i64 N[j]) by
   have := Ke hr h j (iv N[j]) (by rw [List.getElem?_map, List.getElem?_eq_getElem hj]; rfl)
   rwa [Nat.zero_add] at this)
  have hgw : b < w.heap.size := Kd (hr 0 (iv (N[0]'(by omega))) (by rw [List.getElem?_map, List.getElem?_eq_getElem (by omega)]; rfl))
  clear hr hB hX hY hP hx hy hG hsm
  have hnil := fun (W : World) => Lib.run_eql_slice_nil (P := Tryz.prog) W 68 3 (some ⟨b, 0, none⟩) 9 d 0 0 Tryz.underlying68
  go_enter Tryz.func34, Tryz.ntmps34
  go_upto_region 1 with fail
  refine Jc (P := fun u => Code.wp _ _ _ _ u) (c0 := [.slice A 9 c, .slice (some ⟨b, 0, none⟩) 9 d]) (c1 := [.int .i64 0, .int .i64 0]) ?_
  intro u HB r0 r1 zn0 zn1 hsz
  clear hsz zn0
  have q0 : u.cell? ⟨w.heap.size, 0, none⟩ = some (.slice A 9 c) := r0 0 _ rfl
  have q1 : u.cell? ⟨w.heap.size, 1, none⟩ = some (.slice (some ⟨b, 0, none⟩) 9 d) := r0 1 _ rfl
  have ltq := Kd q0
  go_upto_region 4 with fail
  clear q0 q1 ltq
  refine Kw (P := fun u => Code.wp _ _ _ _ u) (c := [.int .i64 0, .int .i64 0, .int .i64 0]) ?_
  intro uv hv rv zv hsz
  have hF : FilV u u.heap.size (rsE N X Y 0) uv := ⟨hv, zv, Nat.le_refl _, rv⟩
  have HU := hid fun (W : World) (h : Below u.heap.size u W) => And.intro (Kb HB h) (And.intro (Ke r0 h) (And.intro (Ke r1 h) (zn1.below h)))
  have hzl := zn1.lt
  have hwg := HB.size
  obtain ⟨gv, hgv⟩ : ∃ gv, gv = u.heap.size := ⟨_, rfl⟩
  rw [← hgv] at hF hzl hwg ⊢
  clear hsz rv zv hv r0 r1 zn1 HB hgv
  go_wp2
  go_loopw [20] (fun s20 wr => ∃ i : Nat, i ≤ 3 ∧ s20 = .int .i64 i ∧ FilV u gv (rsE N X Y i) wr) (fun s20 _ => 3 - (intOf s20).toNat)
  case atStart => exact ⟨0, by omega, rfl, hF⟩
  case round =>
   obtain ⟨i, hi, rfl, hS⟩ := hrel
   clear hF
   obtain ⟨HB, r0, r1, zn1⟩ := HU.out wr hS.b
   by_cases hi3 : i < 3
   ·have hii : (i : Int) < 3 := by omega
    obtain ⟨n0, n1, n2, p, q, s, hlt, a0, a1, a2, w1, w2, w3, w4, w5, _⟩ := hrow.out i hi3
    have t0 := HL.out wr HB (3 * i) (by omega)
    have t1 := HL.out wr HB (3 * i + 1) (by omega)
    have t2 := HL.out wr HB (3 * i + 2) (by omega)
    rw [a0] at t0
    rw [a1] at t1
    rw [a2] at t2
    have q0 : wr.cell? ⟨w.heap.size, 0, none⟩ = some (.slice A 9 c) := r0 0 _ rfl
    have q1 : wr.cell? ⟨w.heap.size, 1, none⟩ = some (.slice (some ⟨b, 0, none⟩) 9 d) := r0 1 _ rfl
    have d0 := hS.cell (j := i) (by rw [rsE_len]; omega)
    have lt0 := Kd t0
    have ltd := Kd d0
    have ltq := Kd q0
    have fd := hS.z.fr
    have hst := hid (rsE_set N X Y i)
    have HS := hid hS
    generalize rwZ N i X Y = rz at *
    generalize (rsE N X Y i)[i]'(by rw [rsE_len]; omega) = dv at *
    have b1 : IntKind.i64.wrap (3 * (i : Int)) = 3 * (i : Int) := by rw [IntKind.wrap_i64]; omega
    have b2 : IntKind.i64.wrap (3 * (i : Int) + 3) = 3 * (i : Int) + 3 := by rw [IntKind.wrap_i64]; omega
    have b3 : (3 * (i : Int)).toNat = 3 * i := by omega
    have b4 : (3 * (i : Int) + 3).toNat = 3 * i + 3 := by omega
    have b5 : (0 : Int) ≤ 3 * (i : Int) := by omega
    have b6 : 3 * (i : Int) + 3 ≤ (d : Int) := by omega
    have b7 : 3 * (i : Int) ≤ 3 * (i : Int) + 3 := by omega
    have b8 : (0 : Int) ≤ 3 * (i : Int) + 3 := by omega
    have b9 : 3 * (i : Int) ≤ (d : Int) := by omega
    have hsub : 3 * i + 3 - 3 * i = 3 := by omega
    have hsub2 : (3 * (i : Int) + 3 - 3 * (i : Int)) = 3 := by omega
    clear hS r0 r1 zn1 a0 a1 a2
    go_upto_region 8 with fail
    go_region_held3 (fun w' => w'.cell? ⟨b, 3 * i, none⟩ = some (.int .i64 n0) ∧ w'.cell? ⟨b, 3 * i + 1, none⟩ = some (.int .i64 n1) ∧ w'.cell? ⟨b, 3 * i + 2, none⟩ = some (.int .i64 n2)) (first | ((try dsimp only); repeat' (first | with_reducible assumption | apply And.intro | (with_reducible refine Kk ?_) | (with_reducible refine Kn ?_) | (with_reducible refine Kh (by omega) ?_) | (with_reducible refine Kp (by omega) ?_) | (with_reducible refine Ka (W := wr) ?_ ?_) | fail))) (fail)
    all_goals
     have hF5 := HS.out.set (j := i) (by rw [rsE_len]; omega) (iv rz)
     rw [hst.out] at hF5
     have hF5 := hid (hF5.below (Below.refl _ _).drew)
     go_wp2
     go_roundw
     case rel => exact ⟨i + 1, by omega, by go_num, hF5.out⟩
     case measure => simp [intOf]; omega
   ·obtain rfl : i = 3 := by omega
    rw [rsE_all] at hS
    have c0 := hS.cell (j := 0) (by simp)
    have c1 := hS.cell (j := 1) (by simp)
    have c2 := hS.cell (j := 2) (by simp)
    have hs0 : (rwZ N 0 X Y).natAbs ≤ 4611686018427387904 := by
     obtain ⟨_, _, _, _, _, _, _, _, _, _, _, _, _, _, _, hs0⟩ := hrow.out 0 (by omega)
     exact hs0
    have hs1 : (rwZ N 1 X Y).natAbs ≤ 4611686018427387904 := by
     obtain ⟨_, _, _, _, _, _, _, _, _, _, _, _, _, _, _, hs1⟩ := hrow.out 1 (by omega)
     exact hs1
    have hPs := hid fun h => hPs.out _ _ _ rfl rfl rfl h
    have hc0 := hid fun h => clP_small (a := rwZ N 0 X Y) (b := rwZ N 2 X Y) h hs0
    have hc1 := hid fun h => clP_small (a := rwZ N 1 X Y) (b := rwZ N 2 X Y) h hs1
    have HF0 := hid fun h (W : World) => Sfloor_g (rwZ N 0 X Y) (rwZ N 2 X Y) h hs0 W
    have HF1 := hid fun h (W : World) => Sfloor_g (rwZ N 1 X Y) (rwZ N 2 X Y) h hs1 W
    simp only [List.getElem_cons_zero, List.getElem_cons_succ, iv] at c0 c1 c2
    generalize rwZ N 0 X Y = v0 at *
    generalize rwZ N 1 X Y = v1 at *
    generalize rwZ N 2 X Y = v2 at *
    have ltc := Kd c0
    clear hs0 hs1 hrow HL hS r0
    by_cases h0 : v2 = 0
    ·have HR := hid (hPn.out h0).symm
     subst h0
     clear hPn hPs hc0 hc1 HF0 HF1 c0 c1
     have k0 : (wr).cell? ⟨w.heap.size + 1, 0, none⟩ = some (.int .i64 0) := r1 0 _ rfl
     have k1 : (wr).cell? ⟨w.heap.size + 1, 1, none⟩ = some (.int .i64 0) := r1 1 _ rfl
     have ltk := Kd k0
     have fk := zn1.fr
     have HBf := hid (Kg (Kg HB (show w.heap.size ≤ w.heap.size + 1 by omega) 0 (.int .i64 (0))) (show w.heap.size ≤ w.heap.size + 1 by omega) 1 (.int .i64 (0)))
     clear r1 zn1 HB
     go_wp2
     refine bodyPost_ret (v := .tuple #[.agg #[.int .i64 (0), .int .i64 (0)], .bool false]) ?_ rfl ?_
     ·simp [results, Tryz.results34, go_sem, k0, k1]
     ·(first | rw [HR.out] | skip)
      exact ⟨rfl, HBf.out⟩
    ·have HR := hid (hPs.out h0).symm
     rw [hc0.out h0, hc1.out h0] at HR
     have HF0 := hid (HF0.out h0)
     have HF1 := hid (HF1.out h0)
     generalize Int.fdiv v0 v2 = qx at *
     generalize Int.fdiv v1 v2 = qy at *
     clear hPn hPs hc0 hc1
     have k0 : wr.cell? ⟨w.heap.size + 1, 0, none⟩ = some (.int .i64 0) := r1 0 _ rfl
     have k1 : wr.cell? ⟨w.heap.size + 1, 1, none⟩ = some (.int .i64 0) := r1 1 _ rfl
     have fk := zn1.fr
     have ltk := Kd k0
     have hBB := Below.refl wr.heap.size wr
     go_upto_region 12 with fail
     go_region_held3 (fun w' => w'.cell? ⟨gv, 0, none⟩ = some (.int .i64 v0) ∧ w'.cell? ⟨gv, 1, none⟩ = some (.int .i64 v1) ∧ w'.cell? ⟨gv, 2, none⟩ = some (.int .i64 v2)) (first | ((try dsimp only); repeat' (first | with_reducible assumption | apply And.intro | (with_reducible refine Kk ?_) | (with_reducible refine Kn ?_) | (with_reducible refine Kh (by omega) ?_) | (with_reducible refine Kp (by omega) ?_) | (with_reducible refine Ka (W := wr) ?_ ?_) | fail))) (first | (go_at_call 62; (with_reducible refine (HF0.out _).mono ?_); rintro e y1 ⟨rfl, hq_⟩; have qy1 : Below wr.heap.size wr y1 := Kb BG hq_) | (go_at_call 62; (with_reducible refine (HF1.out _).mono ?_); rintro e y2 ⟨rfl, hq_⟩; have qy2 : Below wr.heap.size wr y2 := Kb BG hq_; have k0 := Ka qy2 k0; have k1 := Ka qy2 k1; have ltk := Kd k0; have fk := (zn1.below qy2).fr))
     all_goals
      have HBf := hid (Kg (Kg (Kb HB qy2) (show w.heap.size ≤ w.heap.size + 1 by omega) 0 (.int .i64 qx)) (show w.heap.size ≤ w.heap.size + 1 by omega) 1 (.int .i64 qy))
      clear r1 zn1 HB
      go_wp2
      refine bodyPost_ret (v := .tuple #[.agg #[.int .i64 qx, .int .i64 qy], .bool true]) ?_ rfl ?_
      ·simp [results, Tryz.results34, go_sem, k0, k1]
      ·rw [HR.out]
       exact ⟨rfl, HBf.out⟩
end Go.Proofs.YtdkgbkbbbldliaaGreat
