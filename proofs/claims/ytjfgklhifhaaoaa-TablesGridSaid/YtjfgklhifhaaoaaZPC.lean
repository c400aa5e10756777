/- Tables in plain lists: the separations of a table, step by step. Conditions: none. -/
import Derived.Test.YtjfgklhifhaaoaaZPB
set_option linter.unusedVariables false
set_option linter.unusedSimpArgs false
namespace Go.Proofs.Ytjfgklhifhaaoaa
def mrkS (key : Nat → Nat) (d : List Bool) (f x : Nat) : List Bool := (List.range' f (x - f)).foldl (fun d r => d.set (key r) true) d
theorem mrkS_start (key : Nat → Nat) (d : List Bool) (f : Nat) : mrkS key d f f = d := by unfold mrkS; rw [Nat.sub_self]; rfl
theorem mrkS_succ {key : Nat → Nat} {d : List Bool} {f x : Nat} (h : f ≤ x) : mrkS key d f (x + 1) = (mrkS key d f x).set (key x) true := by
 unfold mrkS
 rw [show x + 1 - f = (x - f) + 1 by omega, List.range'_concat, List.foldl_append, Nat.one_mul, show f + (x - f) = x by omega]
 rfl
theorem set_fold_len (key : Nat → Nat) : ∀ (l : List Nat) (d : List Bool), (l.foldl (fun d r => d.set (key r) true) d).length = d.length
 | [], _ => rfl
 | a :: l, d => by rw [List.foldl_cons, set_fold_len key l, List.length_set]
theorem mrkS_len (key : Nat → Nat) (d : List Bool) (f x : Nat) : (mrkS key d f x).length = d.length := set_fold_len key _ d
theorem mrkR_zero {cols : Nat} {d : List Bool} {s : Sp} (h : s.n = 0) : mrkR cols d s = d := by unfold mrkR; rw [if_pos h]
theorem mrkB_zero {cols : Nat} {d : List Bool} {s : Sp} (h : s.n = 0) : mrkB cols d s = d := by unfold mrkB; rw [if_pos h]
theorem mrkR_eq {cols : Nat} {d : List Bool} {s : Sp} (h : s.n ≠ 0) : mrkR cols d s = mrkS (fun row => row * cols + s.n - 1) d s.f s.o := by unfold mrkR mrkS; rw [if_neg h]
theorem mrkB_eq {cols : Nat} {d : List Bool} {s : Sp} (h : s.n ≠ 0) : mrkB cols d s = mrkS (fun col => (s.n - 1) * cols + col) d s.f s.o := by unfold mrkB mrkS; rw [if_neg h]
theorem mrkR_len (cols : Nat) (d : List Bool) (s : Sp) : (mrkR cols d s).length = d.length := by
 by_cases h : s.n = 0
 ·rw [mrkR_zero h]
 ·rw [mrkR_eq h, mrkS_len]
theorem mrkB_len (cols : Nat) (d : List Bool) (s : Sp) : (mrkB cols d s).length = d.length := by
 by_cases h : s.n = 0
 ·rw [mrkB_zero h]
 ·rw [mrkB_eq h, mrkS_len]
theorem fold_len {α : Type} {g : List Bool → α → List Bool} (hg : ∀ d s, (g d s).length = d.length) : ∀ (l : List α) (d : List Bool), (l.foldl g d).length = d.length
 | [], _ => rfl
 | a :: l, d => by rw [List.foldl_cons, fold_len hg l, hg]
theorem fold_succ {α β : Type} {g : β → α → β} {l : List α} {d : β} {i : Nat} (h : i < l.length) : (l.take (i + 1)).foldl g d = g ((l.take i).foldl g d) l[i] := by
 rw [List.take_succ_eq_append_getElem h, List.foldl_append]; rfl
theorem fold_all {α β : Type} {g : β → α → β} {l : List α} {d : β} : (l.take l.length).foldl g d = l.foldl g d := by rw [List.take_length]
theorem plcE_R (f : Fr) : (plcE f).R = f.D.foldl (mrkR (f.V.length - 1)) (List.replicate ((f.H.length - 1) * (f.V.length - 1)) false) := rfl
theorem plcE_B (f : Fr) : (plcE f).B = f.A.foldl (mrkB (f.V.length - 1)) (List.replicate ((f.H.length - 1) * (f.V.length - 1)) false) := rfl
end Go.Proofs.Ytjfgklhifhaaoaa
/- Tables in plain lists: the search of a cell, step by step. Conditions: none. -/
namespace Go.Proofs.Ytjfgklhifhaaoaa
theorem nxt_lt {p : Pl} {i : Nat} (hi : i < p.rows * p.cols) : ∀ x ∈ nxtL p i, x < p.rows * p.cols := fun x hx => by
 have hC0 : 0 < p.cols := Nat.pos_of_ne_zero fun e => by rw [e, Nat.mul_zero] at hi; omega
 have hdl : i / p.cols < p.rows := Nat.div_lt_of_lt_mul (by rw [Nat.mul_comm]; exact hi)
 have hml : i % p.cols < p.cols := Nat.mod_lt _ hC0
 have hdm : i / p.cols * p.cols + i % p.cols = i := by rw [Nat.mul_comm]; exact Nat.div_add_mod i p.cols
 unfold nxtL at hx
 simp only [List.mem_append] at hx
 rcases hx with ((hx | hx) | hx) | hx
 ·split at hx
  ·obtain rfl : x = i - 1 := by simpa using hx
   omega
  ·cases hx
 ·split at hx
  ·rename_i h
   obtain rfl : x = i + 1 := by simpa using hx
   have : (i / p.cols + 1) * p.cols ≤ p.rows * p.cols := Nat.mul_le_mul_right _ hdl
   rw [Nat.add_mul, Nat.one_mul] at this
   omega
  ·cases hx
 ·split at hx
  ·obtain rfl : x = i - p.cols := by simpa using hx
   omega
  ·cases hx
 ·split at hx
  ·rename_i h
   obtain rfl : x = i + p.cols := by simpa using hx
   have : (i / p.cols + 1 + 1) * p.cols ≤ p.rows * p.cols := Nat.mul_le_mul_right _ h.1
   rw [Nat.add_mul, Nat.add_mul, Nat.one_mul] at this
   omega
  ·cases hx
theorem nxt_len (p : Pl) (i : Nat) : (nxtL p i).length ≤ 4 := by
 unfold nxtL
 simp only [List.length_append]
 repeat' split
 all_goals simp
/-! the neighbours are pushed -/
theorem push_met {s : List Bool × List Nat} {o : Nat} (h : at0 s.1 o = true) : pushD s o = s := by unfold pushD; rw [if_pos h]
theorem push_new {s : List Bool × List Nat} {o : Nat} (h : at0 s.1 o = false) : pushD s o = (s.1.set o true, s.2 ++ [o]) := by unfold pushD; rw [if_neg (by rw [h]; simp)]
theorem at0_lt {l : List Bool} {i : Nat} (h : i < l.length) : at0 l i = l[i] := by
 unfold at0
 rw [List.getD_eq_getElem?_getD, List.getElem?_eq_getElem h]; rfl
theorem count_set {l : List Bool} {o : Nat} (h : o < l.length) (hf : at0 l o = false) : l.countP (· == false) = (l.set o true).countP (· == false) + 1 := by
 rw [at0_lt h] at hf
 have := List.countP_set (p := (· == false)) (l := l) (a := true) h
 rw [hf] at this
 have hpos : 0 < l.countP (· == false) := List.countP_pos_iff.2 ⟨l[o], List.getElem_mem h, by rw [hf]; rfl⟩
 rw [if_pos (by decide), if_neg (by decide)] at this
 omega
/-- what a pushing keeps: the length, the number of those not met with those on the stack -/
structure PuOk (N k : Nat) (q : List Bool × List Nat) : Prop where
 len : q.1.length = N
 cnt : q.1.countP (· == false) + q.2.length = k
 lt : ∀ x ∈ q.2, x < N
theorem PuOk.push {N k o : Nat} {q : List Bool × List Nat} (h : PuOk N k q) (ho : o < N) : PuOk N k (pushD q o) := by
 cases hm : at0 q.1 o
 ·rw [push_new hm]
  have := count_set (by rw [h.len]; exact ho) hm
  refine ⟨by simpa using h.len, ?_, fun x hx => ?_⟩
  ·have h1 := h.cnt
   simp only [List.length_append, List.length_cons, List.length_nil]
   omega
  ·rcases List.mem_append.1 hx with h2 | h2
   ·exact h.lt x h2
   ·obtain rfl : x = o := by simpa using h2
    exact ho
 ·rw [push_met hm]; exact h
theorem PuOk.fold {N k : Nat} : ∀ (l : List Nat) (q : List Bool × List Nat), PuOk N k q → (∀ x ∈ l, x < N) → PuOk N k (l.foldl pushD q)
 | [], _, h, _ => h
 | a :: l, q, h, hl => by
  rw [List.foldl_cons]
  exact PuOk.fold l _ (h.push (hl a (by simp))) fun x hx => hl x (by simp [hx])
/-! the search -/
structure DfOk (p : Pl) (F s : Df) : Prop where
 pu : PuOk (p.rows * p.cols) (fuelD s) (s.met, s.st)
 tb : s.t ≤ s.b
 br : s.b < p.rows
 lr : s.l ≤ s.r
 rc : s.r < p.cols
 n : s.n + fuelD s ≤ p.rows * p.cols + 1
 fin : runD p (fuelD s) s = F
theorem df_start {p : Pl} {met : List Bool} {i : Nat} (hl : met.length = p.rows * p.cols) (hi : i < p.rows * p.cols) (h0 : at0 met i = false) : DfOk p (findD p met i) (startD p met i) := by
 have hC0 : 0 < p.cols := Nat.pos_of_ne_zero fun e => by rw [e, Nat.mul_zero] at hi; omega
 have hdl : i / p.cols < p.rows := Nat.div_lt_of_lt_mul (by rw [Nat.mul_comm]; exact hi)
 have hml : i % p.cols < p.cols := Nat.mod_lt _ hC0
 have hc := count_set (by rw [hl]; exact hi) h0
 have hle : met.countP (· == false) ≤ p.rows * p.cols := by rw [← hl]; exact List.countP_le_length
 refine ⟨⟨?_, rfl, ?_⟩, Nat.le_refl _, hdl, Nat.le_refl _, hml, ?_, rfl⟩
 ·show (met.set i true).length = _
  rw [List.length_set]; exact hl
 ·intro x hx
  obtain rfl : x = i := by simpa [startD] using hx
  exact hi
 ·show 0 + fuelD (startD p met i) ≤ _
  unfold fuelD startD
  simp only [List.length_cons, List.length_nil]
  omega
theorem df_step {p : Pl} {F s : Df} {st : List Nat} {i : Nat} (h : DfOk p F s) (hs : s.st = st ++ [i]) :
  i < p.rows * p.cols ∧ PuOk (p.rows * p.cols) (fuelD s - 1) (s.met, st) ∧ 1 ≤ fuelD s ∧ DfOk p F (stepD p s i) ∧ fuelD (stepD p s i) < fuelD s ∧ stepD p s i = ⟨((nxtL p i).foldl pushD (s.met, st)).1, ((nxtL p i).foldl pushD (s.met, st)).2, s.n + 1, min s.t (i / p.cols), max s.b (i / p.cols), min s.l (i % p.cols), max s.r (i % p.cols)⟩ := by
 obtain ⟨hpu, tb, br, lr, rc, hn, hf⟩ := h
 have hi : i < p.rows * p.cols := hpu.lt i (by show i ∈ s.st; rw [hs]; simp)
 have hC0 : 0 < p.cols := Nat.pos_of_ne_zero fun e => by rw [e, Nat.mul_zero] at hi; omega
 have hdl : i / p.cols < p.rows := Nat.div_lt_of_lt_mul (by rw [Nat.mul_comm]; exact hi)
 have hml : i % p.cols < p.cols := Nat.mod_lt _ hC0
 have hfu : fuelD s = s.met.countP (· == false) + (st.length + 1) := by unfold fuelD; rw [hs]; simp
 have hpu0 : PuOk (p.rows * p.cols) (fuelD s - 1) (s.met, st) := ⟨hpu.len, by show s.met.countP (· == false) + st.length = _; omega, fun x hx => hpu.lt x (by show x ∈ s.st; rw [hs]; exact List.mem_append_left _ hx)⟩
 have hpu1 := PuOk.fold _ _ hpu0 (nxt_lt hi)
 have hst : stepD p s i = ⟨((nxtL p i).foldl pushD (s.met, st)).1, ((nxtL p i).foldl pushD (s.met, st)).2, s.n + 1, min s.t (i / p.cols), max s.b (i / p.cols), min s.l (i % p.cols), max s.r (i % p.cols)⟩ := by
  unfold stepD
  rw [hs, List.dropLast_concat]
 have hf1 : fuelD (stepD p s i) = fuelD s - 1 := by rw [hst]; exact hpu1.cnt
 refine ⟨hi, hpu0, by omega, ⟨?_, ?_, ?_, ?_, ?_, ?_, ?_⟩, by omega, hst⟩
 ·rw [hf1, hst]; exact hpu1
 ·rw [hst]; dsimp only; omega
 ·rw [hst]; dsimp only; omega
 ·rw [hst]; dsimp only; omega
 ·rw [hst]; dsimp only; omega
 ·rw [hf1, hst]; dsimp only; omega
 ·rw [hf1, ← hf]
  obtain ⟨k, hk⟩ : ∃ k, fuelD s = k + 1 := ⟨fuelD s - 1, by omega⟩
  rw [hk, Nat.add_sub_cancel, runD, hs, List.getLast?_concat]
theorem df_end {p : Pl} {F s : Df} (h : DfOk p F s) (hs : s.st = []) : F = s := by
 rw [← h.fin]
 cases fuelD s with
 | zero => rfl
 | succ k => rw [runD, hs]; rfl
theorem sepA_hit {p : Pl} {s : Df} {row col : Nat} (h1 : s.t ≤ row ∧ row ≤ s.b) (h2 : s.l ≤ col ∧ col ≤ s.r) (h : sepD p s row col = true) : sepA p s = true := by
 unfold sepA
 rw [List.any_eq_true]
 refine ⟨row, List.mem_range'_1.2 (by omega), ?_⟩
 rw [List.any_eq_true]
 exact ⟨col, List.mem_range'_1.2 (by omega), h⟩
theorem sepA_miss {p : Pl} {s : Df} (h : ∀ row col, s.t ≤ row → row ≤ s.b → s.l ≤ col → col ≤ s.r → sepD p s row col = false) : sepA p s = false := by
 unfold sepA
 rw [List.any_eq_false]
 intro row hr
 have hr := List.mem_range'_1.1 hr
 rw [Bool.not_eq_true, List.any_eq_false]
 intro col hc
 have hc := List.mem_range'_1.1 hc
 rw [h row col (by omega) (by omega) (by omega) (by omega)]
 simp
end Go.Proofs.Ytjfgklhifhaaoaa
/- Tables in plain lists: where a cell lies; the cells one after another; what Grid answers. Conditions: none. -/
namespace Go.Proofs.Ytjfgklhifhaaoaa
structure DfB (p : Pl) (F : Df) : Prop where
 len : F.met.length = p.rows * p.cols
 tb : F.t ≤ F.b
 br : F.b < p.rows
 lr : F.l ≤ F.r
 rc : F.r < p.cols
theorem df_fin {p : Pl} {F : Df} : ∀ (k : Nat) (s : Df), fuelD s = k → DfOk p F s → DfB p F := fun k => by
 induction k using Nat.strongRecOn with
 | _ k ih =>
  intro s hk h
  rcases List.eq_nil_or_concat s.st with he | ⟨st, a, he⟩
  ·obtain rfl := df_end h he
   exact ⟨h.pu.len, h.tb, h.br, h.lr, h.rc⟩
  ·rw [List.concat_eq_append] at he
   obtain ⟨_, _, _, h2, hlt, _⟩ := df_step h he
   exact ih _ (by omega) _ rfl h2
theorem cel_in {p : Pl} {F : Df} {c : Ce} (h : DfB p F) (hc : celD p F = some c) : ∃ t l RS CS : Nat, c = ⟨t, l, RS, CS, ⟨0, 0, 0, 0⟩⟩ ∧ 1 ≤ RS ∧ 1 ≤ CS ∧ t + RS ≤ p.rows ∧ l + CS ≤ p.cols := by
 unfold celD at hc
 split at hc
 ·split at hc
  ·cases hc
  ·obtain rfl := Option.some.inj hc
   obtain ⟨_, h1, h2, h3, h4⟩ := h
   exact ⟨F.t, F.l, F.b + 1 - F.t, F.r + 1 - F.l, rfl, by omega, by omega, by omega, by omega⟩
 ·cases hc
theorem find_in {p : Pl} {met : List Bool} {i : Nat} (hl : met.length = p.rows * p.cols) (hi : i < p.rows * p.cols) (h0 : at0 met i = false) : DfB p (findD p met i) := df_fin _ _ rfl (df_start hl hi h0)
theorem cels_zero (f : Fr) (p : Pl) (i : Nat) (met : List Bool) (l : List Ce) : celsE f p 0 i met l = some l := rfl
theorem cels_met {f : Fr} {p : Pl} {k i : Nat} {met : List Bool} {l : List Ce} (h : at0 met i = true) : celsE f p (k + 1) i met l = celsE f p k (i + 1) met l := by
 rw [celsE, if_pos h]
theorem cels_none {f : Fr} {p : Pl} {k i : Nat} {met : List Bool} {l : List Ce} (h : at0 met i = false) (hc : celD p (findD p met i) = none) : celsE f p (k + 1) i met l = none := by
 rw [celsE, if_neg (by rw [h]; simp), hc]
theorem cels_some {f : Fr} {p : Pl} {k i : Nat} {met : List Bool} {l : List Ce} {c : Ce} (h : at0 met i = false) (hc : celD p (findD p met i) = some c) : celsE f p (k + 1) i met l = celsE f p k (i + 1) (findD p met i).met (l ++ [boxC f c]) := by
 rw [celsE, if_neg (by rw [h]; simp), hc]
def celG (f : Fr) : Option (List Ce) := celsE f (plcE f) ((plcE f).rows * (plcE f).cols) 0 (List.replicate ((plcE f).rows * (plcE f).cols) false) []
theorem grd_empty {l : List Ru} (h : l.length = 0) : grdE l = (noT, 5) := by unfold grdE; rw [if_pos h]
theorem grd_long {l : List Ru} (h : l.length ≠ 0) (h2 : 512 < l.length) : grdE l = (noT, 4) := by unfold grdE; rw [if_neg h, if_pos h2]
theorem grd_bad {l : List Ru} (h : l.length ≠ 0) (h2 : ¬ 512 < l.length) (h3 : l.all okR = false) : grdE l = (noT, 3) := by unfold grdE; rw [if_neg h, if_neg h2, if_neg (by rw [h3]; simp)]
theorem grd_form {l : List Ru} (h : l.length ≠ 0) (h2 : ¬ 512 < l.length) (h3 : l.all okR = true) (h4 : bldE l = none) : grdE l = (noT, 9) := by unfold grdE; rw [if_neg h, if_neg h2, if_pos h3, h4]
theorem grd_none {l : List Ru} {f : Fr} (h : l.length ≠ 0) (h2 : ¬ 512 < l.length) (h3 : l.all okR = true) (h4 : bldE l = some f) (h5 : celG f = none) : grdE l = (noT, 9) := by
 unfold grdE
 rw [if_neg h, if_neg h2, if_pos h3, h4]
 dsimp only
 unfold celG at h5
 rw [h5]
theorem grd_ok {l : List Ru} {f : Fr} {L : List Ce} (h : l.length ≠ 0) (h2 : ¬ 512 < l.length) (h3 : l.all okR = true) (h4 : bldE l = some f) (h5 : celG f = some L) : grdE l = (⟨((plcE f).rows : Int), ((plcE f).cols : Int), L⟩, 0) := by
 unfold grdE
 rw [if_neg h, if_neg h2, if_pos h3, h4]
 dsimp only
 unfold celG at h5
 rw [h5]
end Go.Proofs.Ytjfgklhifhaaoaa
/- Tables in plain lists: the example of the chapter. Conditions: none. -/
namespace Go.Proofs.Ytjfgklhifhaaoaa
deriving instance DecidableEq for Bm
theorem bnd_sorted {l : List Ru} {v : Bool} (h : (bndL l v).Pairwise fun x y => (!decide (cmpP y x < 0)) = true) : bndE l v = dedP (bndL l v) := by
 unfold bndE
 rw [List.mergeSort_of_pairwise h]
def exM : Bm := ⟨10, 4, [true, true, true, true, true, true, true, true, true, true, true, false, false, false, true, false, false, false, false, true, true, false, false, false, true, false, false, false, false, true, true, true, true, true, true, true, true, true, true, true]⟩
def exL : List Ru := [⟨false, 0, 1, 0, 10⟩, ⟨false, 3, 1, 0, 10⟩, ⟨true, 0, 1, 0, 4⟩, ⟨true, 4, 1, 0, 4⟩, ⟨true, 9, 1, 0, 4⟩]
def exC : List Ce := [⟨0, 0, 1, 1, ⟨1, 1, 3, 2⟩⟩, ⟨0, 1, 1, 1, ⟨5, 1, 4, 2⟩⟩]
def exF : Fr := ⟨[(0, 1), (3, 1)], [(0, 1), (4, 1), (9, 1)], [⟨0, 0, 2⟩, ⟨1, 0, 2⟩], [⟨0, 0, 1⟩, ⟨1, 0, 1⟩, ⟨2, 0, 1⟩]⟩
theorem ex_draw : drwE [3, 4] [2] 1 = (exM, 0) := by decide +kernel
theorem ex_rules : rulE exM 3 = (exL, 0) := by decide +kernel
theorem ex_H : bndE exL false = exF.H := (bnd_sorted (by decide +kernel)).trans (by decide +kernel)
theorem ex_V : bndE exL true = exF.V := (bnd_sorted (by decide +kernel)).trans (by decide +kernel)
theorem ex_build : bldE exL = some exF := by
 unfold bldE
 dsimp only
 rw [ex_H, ex_V]
 rw [List.mergeSort_of_pairwise (le := spnLe) (l := spnL exL false exF.H exF.V) (by decide +kernel), List.mergeSort_of_pairwise (le := spnLe) (l := spnL exL true exF.V exF.H) (by decide +kernel)]
 rw [if_pos (by decide +kernel), if_pos (by decide +kernel)]
 have e1 : spnL exL false exF.H exF.V = exF.A := by decide +kernel
 have e2 : spnL exL true exF.V exF.H = exF.D := by decide +kernel
 rw [e1, e2]
theorem ex_cells : celG exF = some exC := by decide +kernel
theorem ex_grid : grdE exL = (⟨1, 2, exC⟩, 0) := (grd_ok (by decide) (by decide) (by decide +kernel) ex_build ex_cells).trans rfl
theorem ex_loc : locE exC 5 2 = (1, 0) := by decide +kernel
theorem ex_without : witE exM exL = (⟨10, 4, List.replicate 40 false⟩, 0) := by decide +kernel
end Go.Proofs.Ytjfgklhifhaaoaa
