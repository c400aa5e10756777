/- Tables: the cell with a place. Conditions: at most 512 rows and columns. -/
import Derived.Test.YtjfgklhifhaaoaaZTw21
import Derived.Test.YtjfgklhifhaaoaaZPC
set_option linter.unusedVariables false
set_option linter.unusedSimpArgs false
namespace Go.Proofs.Ytjfgklhifhaaoaa
open Go.RowKit
theorem run_max2 {P : Program} (w : World) (ts : Array TypeId) (t : TypeId) (a b : Int) : (Builtin.max_ ts t #[.int .i64 a, .int .i64 b]).run P w = .ok (.int .i64 (max a b)) w := by
 have h : ∀ (x y : Int), (Builtin.max2 (.int .i64 x) (.int .i64 y)).run P w = .ok (.int .i64 (max x y)) w := fun x y => by
  simp only [Builtin.max2]
  split <;> simp <;> omega
 simp [Builtin.max_, Sem.run_bind, h]
/-- the search's world: nothing old but the marks was changed; the stack is an own row -/
structure Sta (u w : World) (g : Nat) (met : List Bool) (v : Value) (st : List Nat) : Prop where
 gb : u.grownBy w (some g)
 m : PxA w g met
 o : NaK.Own w u.heap.size v st
 lt : g < u.heap.size
theorem own_one (W : World) (i : Nat) : NaK.Own (W.alloc (.cells #[.int .i64 (i : Int)] 3)) W.heap.size (.slice (some ⟨W.heap.size, 0, none⟩) 1 1) [i] :=
 ⟨rfl, .inr ⟨W.heap.size, 1, #[.int .i64 (i : Int)], rfl, Nat.le_refl _, by show (W.heap.push _)[W.heap.size]? = _; simp; rfl, Nat.le_refl _, by unfold maxLen; omega, rfl, rfl⟩⟩
theorem Sta.below {u w w' : World} {g : Nat} {met : List Bool} {v : Value} {st : List Nat} (h : Sta u w g met v st) (hb : Below w.heap.size w w') : Sta u w' g met v st :=
 ⟨h.gb.trans (gb_below hb), h.m.below hb, h.o.below hb, h.lt⟩
theorem Sta.ne {u w : World} {g : Nat} {met : List Bool} {v : Value} {st : List Nat} (h : Sta u w g met v st) : v.ownBlock ≠ some g := fun e => by
 have := (h.o.lt e).1
 have := h.lt
 omega
theorem Sta.set {u w : World} {g : Nat} {met : List Bool} {v : Value} {st : List Nat} (h : Sta u w g met v st) {j : Nat} (hj : j < met.length) (t : Bool) : Sta u (w.setCell ⟨g, j, none⟩ (.bool t)) g (met.set j t) v st :=
 ⟨h.gb.trans gb_set, h.m.set hj t, h.o.grown gb_set (.inr h.ne), h.lt⟩
theorem Sta.app {u w w' : World} {g : Nat} {met : List Bool} {v v' : Value} {st st' : List Nat} (h : Sta u w g met v st) (hO : NaK.Own w' u.heap.size v' st') (hg : w.grownBy w' v.ownBlock) : Sta u w' g met v' st' := by
 have hne : some g ≠ v.ownBlock := fun e => h.ne e.symm
 refine ⟨⟨hg.os.trans h.gb.os, hg.tape.trans h.gb.tape, hg.output.trans h.gb.output, Nat.le_trans h.gb.size hg.size, fun k hk hk2 => ?_⟩, ⟨fun j u hu => ?_, ?_⟩, hO, h.lt⟩
 ·refine (hg.block k (Nat.lt_of_lt_of_le hk h.gb.size) (fun e => ?_)).trans (h.gb.block k hk hk2)
  have := (h.o.lt e.symm).1
  omega
 ·exact hg.cell (h.m.r j u hu) hne
 ·refine ⟨Nat.lt_of_lt_of_le h.m.z.lt hg.size, fun i => ?_⟩
  have := hg.block g h.m.z.lt hne
  have hz := h.m.z.fr i
  unfold World.frozen? at *
  rw [this]; exact hz
theorem Sta.keep {u w : World} {g k o : Nat} {met : List Bool} {v x : Value} {st : List Nat} (h : Sta u w g met v st) (hk : k ≠ g) (hc : u.cell? ⟨k, o, none⟩ = some x) : w.cell? ⟨k, o, none⟩ = some x := h.gb.cell hc (fun e => hk (by injection e))
theorem Sta.px {u w : World} {g k : Nat} {met d : List Bool} {v : Value} {st : List Nat} (h : Sta u w g met v st) (hk : k ≠ g) (hp : PxA u k d) : PxA w k d :=
 have hr : PxR u g met w := ⟨h.gb, h.m⟩
 ⟨fun j u hu => hr.keep hk (hp.r j u hu), hr.oz hk hp.z⟩
theorem Sta.size {u w : World} {g : Nat} {met : List Bool} {v : Value} {st : List Nat} (h : Sta u w g met v st) : u.heap.size ≤ w.heap.size := h.gb.size
theorem sep_app {W : World} {x v v' : Value} {base : Nat} {L : List Nat} (hO : NaK.Own W base x L) (hs : x.ownBlock = none ∨ x.ownBlock ≠ v.ownBlock) (hat : v'.ownBlock = v.ownBlock ∨ v'.ownBlock = some W.heap.size) : x.ownBlock = none ∨ x.ownBlock ≠ v'.ownBlock := by
 rcases hat with h | h
 ·rw [h]; exact hs
 ·refine .inr fun e => ?_
  have := (hO.lt (e.trans h)).2
  omega
/-- a cell without its box -/
def ce0 (c : Ce) : Value := .agg #[.int .i64 c.r, .int .i64 c.c, .int .i64 c.rs, .int .i64 c.cs, .int .i64 0, .int .i64 0, .int .i64 0, .int .i64 0]
def RetCel (w : World) (gM : Nat) (p : Pl) (F : Df) (e : Ending) (w' : World) : Prop := PxR w gM F.met w' ∧ ∃ v, (∃ c, v = ce0 c) ∧ e = .returned (.tuple #[v, .bool (celD p F).isSome]) ∧ ∀ c, celD p F = some c → v = ce0 c
def z8 : List Value := [.int .i64 0, .int .i64 0, .int .i64 0, .int .i64 0, .int .i64 0, .int .i64 0, .int .i64 0, .int .i64 0]
theorem PxR.setF {w W : World} {g k i : Nat} {d : List Bool} {v : Value} (h : PxR w g d W) (hg : g < w.heap.size) (hk : w.heap.size ≤ k) : PxR w g d (W.setCell ⟨k, i, none⟩ v) :=
 ⟨⟨h.gb.os, h.gb.tape, h.gb.output, by simpa using h.gb.size, fun j hj hne => (Below.heap_setCell W ⟨k, i, none⟩ v j (by simp; omega)).trans (h.gb.block j hj hne)⟩, h.a.far (by omega)⟩
set_option maxRecDepth 100000 in
set_option maxHeartbeats 8000000 in
theorem Tcel_g (p : Pl) (met : List Bool) (gR gB gM i : Nat) {w : World} (hp : PlOk w p gR gB) (hm : PxA w gM met) (hml : met.length = p.rows * p.cols) (hi : i < p.rows * p.cols) (hat : at0 met i = false) (hne : gR ≠ gM ∧ gB ≠ gM) :
  Calls Try.prog 31 #[plV p gR gB gM, .int .i64 i] w (RetCel w gM p (findD p met i)) := by
 have hst := hid (df_start hml hi hat)
 obtain ⟨F, hF⟩ : ∃ f, findD p met i = f := ⟨_, rfl⟩
 rw [hF] at hst ⊢
 clear hF
 have hC0 : 0 < p.cols := Nat.pos_of_ne_zero fun e => by rw [e, Nat.mul_zero] at hi; omega
 have hN4 : p.rows * p.cols ≤ 512 * 512 := Nat.mul_le_mul hp.r hp.c
 have hdl : i / p.cols < p.rows := Nat.div_lt_of_lt_mul (by rw [Nat.mul_comm]; exact hi)
 have hmd := Nat.mod_lt i hC0
 obtain ⟨R, hR⟩ : ∃ t, p.rows = t := ⟨_, rfl⟩
 obtain ⟨C, hC⟩ : ∃ t, p.cols = t := ⟨_, rfl⟩
 obtain ⟨N, hN⟩ : ∃ t, p.rows * p.cols = t := ⟨_, rfl⟩
 have hr4 := hp.r
 have hc4 := hp.c
 unfold plV
 have hstE := hid (show startD p met i = ⟨met.set i true, [i], 0, i / C, i / C, i % C, i % C⟩ from by rw [← hC]; rfl)
 rw [hN] at hml hi hN4 ⊢
 rw [hR] at hr4 hdl ⊢
 rw [hC] at hc4 hC0 hdl hmd ⊢
 obtain ⟨y, hy⟩ : ∃ y, i / C = y := ⟨_, rfl⟩
 obtain ⟨x, hx⟩ : ∃ x, i % C = x := ⟨_, rfl⟩
 have hdv : Int.tdiv (i : Int) (C : Int) = (y : Int) := by rw [← hy, ← Int.ofNat_tdiv]
 have hmv : Int.tmod (i : Int) (C : Int) = (x : Int) := by rw [← hx, ← Int.ofNat_tmod]
 have hCi : ((C : Int) == 0) = false := by rw [beq_eq_false_iff_ne]; omega
 rw [hy, hx] at hstE
 rw [hy] at hdl
 rw [hx] at hmd
 clear hy hx
 replace hR := hid hR
 replace hC := hid hC
 replace hN := hid hN
 go_enter Try.func31, Try.ntmps31
 go_upto_region 1 with fail
 refine enterR2 (P := fun u => Code.wp _ _ _ _ u) (c0 := [.int .i64 (R : Int), .int .i64 (C : Int), .slice (some ⟨gR, 0, none⟩) N N, .slice (some ⟨gB, 0, none⟩) N N, .slice (some ⟨gM, 0, none⟩) N N]) (c1 := z8) ?_
 intro u HB r0 r1 zn0 zn1 hsz
 have c0 : u.cell? ⟨w.heap.size, 0, none⟩ = some (.int .i64 (R : Int)) := r0 0 _ rfl
 have c1 : u.cell? ⟨w.heap.size, 1, none⟩ = some (.int .i64 (C : Int)) := r0 1 _ rfl
 have c4 : u.cell? ⟨w.heap.size, 4, none⟩ = some (.slice (some ⟨gM, 0, none⟩) N N) := r0 4 _ rfl
 go_wp2_with fail
 go_quiet (fail)
 have hv : Below u.heap.size u (u.drewN nq) := below_drewN (Below.refl _ _) _
 generalize u.drewN nq = v0 at hv ⊢
 have hmu := (hm.below HB).below hv
 have hx0 := hmu.at0 (i := i) (by omega)
 have fz0 := hmu.z.fr
 replace c1 := keep_cell hv c1
 replace c4 := keep_cell hv c4
 have hlt := Nat.lt_of_lt_of_le hm.z.lt HB.size
 have hS0 := hid (show Sta u ((v0.setCell ⟨gM, i, none⟩ (.bool true)).alloc (.cells #[.int .i64 (i : Int)] 3)) gM (met.set i true) (.slice (some ⟨v0.heap.size, 0, none⟩) 1 1) [i] from by
  have h1 : PxR v0 gM (met.set i true) (v0.setCell ⟨gM, i, none⟩ (.bool true)) := (PxR.refl hmu).set (by omega) true
  have hb : Below (v0.setCell ⟨gM, i, none⟩ (.bool true)).heap.size (v0.setCell ⟨gM, i, none⟩ (.bool true)) ((v0.setCell ⟨gM, i, none⟩ (.bool true)).alloc (.cells #[.int .i64 (i : Int)] 3)) := (Below.refl _ _).alloc (Nat.le_refl _) _
  refine ⟨((gb_below hv).trans h1.gb).trans (gb_below hb), h1.a.below hb, ?_, hlt⟩
  have := own_one (v0.setCell ⟨gM, i, none⟩ (.bool true)) i
  rw [World.size_setCell] at this
  exact this.older hv.size)
 have hii : (i : Int) < (N : Int) := by omega
 clear hv hmu
 go_wp2_with fail
 have hwl : gM < w.heap.size := hm.z.lt
 have hwM : w.heap.size ≠ gM := by omega
 have hG := hid fun (W : World) (v : Value) (mt : List Bool) (st : List Nat) (h : Sta u W gM mt v st) => (show ((W.cell? ⟨w.heap.size, 0, none⟩ = some (.int .i64 (R : Int)) ∧ W.cell? ⟨w.heap.size, 1, none⟩ = some (.int .i64 (C : Int))) ∧ (W.cell? ⟨w.heap.size, 2, none⟩ = some (.slice (some ⟨gR, 0, none⟩) N N) ∧ W.cell? ⟨w.heap.size, 3, none⟩ = some (.slice (some ⟨gB, 0, none⟩) N N) ∧ W.cell? ⟨w.heap.size, 4, none⟩ = some (.slice (some ⟨gM, 0, none⟩) N N))) ∧ PlOk W p gR gB from
  ⟨⟨⟨h.keep hwM (r0 0 _ rfl), h.keep hwM (r0 1 _ rfl)⟩, h.keep hwM (r0 2 _ rfl), h.keep hwM (r0 3 _ rfl), h.keep hwM (r0 4 _ rfl)⟩, h.px hne.1 (hp.R.below HB), h.px hne.2 (hp.B.below HB), hp.lR, hp.lB, hp.r, hp.c⟩)
 have hFin := hid (And.intro (And.intro r1 zn1) (And.intro HB hsz))
 clear c0 c1 c4 hx0 fz0 r0 r1 zn0 zn1 hsz HB hp hm
 generalize (v0.setCell ⟨gM, i, none⟩ (.bool true)).alloc (.cells #[.int .i64 (i : Int)] 3) = wA at hS0 ⊢
 rw [hstE.out] at hst
 have hst0 := hid (And.intro hst.out hS0.out)
 have hNx := hid fun (W : World) (v : Value) (mt : List Bool) (st : List Nat) (h : Sta u W gM mt v st) (a : Nat) (ha : a < N) => (show Calls Try.prog 45 #[.agg #[.int .i64 (R : Int), .int .i64 (C : Int), .slice (some ⟨gR, 0, none⟩) N N, .slice (some ⟨gB, 0, none⟩) N N, .slice (some ⟨gM, 0, none⟩) N N], .int .i64 (a : Int)] W (NaK.Ret W (nxtL p a)) from by
  have := Tnxt_g p gR gB gM a (hG.out W v mt st h).2 (by rw [hN.out]; exact ha)
  unfold plV at this
  rwa [hN.out, hR.out, hC.out] at this)
 have hSt := hid fun (s : Df) (st : List Nat) (a : Nat) (h : DfOk p F s) (hs : s.st = st ++ [a]) => df_step h hs
 have hEn := hid fun (s : Df) (h : DfOk p F s) (hs : s.st = []) => df_end h hs
 have hmn := fun (a b : Int) (W : World) => run_min2 (P := Try.prog) W #[3, 3] 3 a b
 have hmx := fun (a b : Int) (W : World) => run_max2 (P := Try.prog) W #[3, 3] 3 a b
 clear hst hS0 hstE hdv hmv hat
 go_loopw [6, 7, 8, 9, 10, 11] (fun s6 s7 s8 s9 s10 s11 wr => ∃ s : Df, ((s6 = .int .i64 (s.t : Int) ∧ s7 = .int .i64 (s.l : Int)) ∧ (s8 = .int .i64 (s.b : Int) ∧ s9 = .int .i64 (s.r : Int)) ∧ s10 = .int .i64 (s.n : Int)) ∧ DfOk p F s ∧ Sta u wr gM s.met s11 s.st) (fun _ _ _ _ s10 _ _ => N + 1 - (intOf s10).toNat)
 case atStart => exact ⟨_, ⟨⟨rfl, rfl⟩, ⟨rfl, rfl⟩, rfl⟩, hst0.out.1, hst0.out.2⟩
 case round =>
  obtain ⟨s, ⟨⟨rfl, rfl⟩, ⟨rfl, rfl⟩, rfl⟩, hD, hS⟩ := hrel
  obtain ⟨⟨⟨c0, c1⟩, c2, c3, c4⟩, hPl⟩ := hG.out wr _ _ _ hS
  obtain ⟨A, cA, rfl⟩ := hS.o.form NaKo
  rcases List.eq_nil_or_concat s.st with he | ⟨st, a, he⟩
  ·obtain rfl := hEn.out s hD he
   obtain ⟨mt, st, n, t, bb, l, r⟩ := F
   dsimp only at he
   subst he
   obtain ⟨-, tb, br, lr, rc, hn4, -⟩ := hD
   dsimp only at tb br lr rc hn4 hS
   rw [hR.out] at br
   rw [hC.out] at rc
   rw [hN.out] at hn4
   clear hNx hSt hEn hst0 hmn hmx c0 c2 c3 c4
   obtain ⟨RS, hRS⟩ : ∃ x, bb + 1 - t = x := ⟨_, rfl⟩
   obtain ⟨CS, hCS⟩ : ∃ x, r + 1 - l = x := ⟨_, rfl⟩
   have hcel := hid (show celD p ⟨mt, [], n, t, bb, l, r⟩ = if n = RS * CS then (if sepA p ⟨mt, [], n, t, bb, l, r⟩ then none else some ⟨t, l, RS, CS, ⟨0, 0, 0, 0⟩⟩) else none from by rw [← hRS, ← hCS]; rfl)
   have w1 : IntKind.i64.wrap ((bb : Int) + 1) = (bb : Int) + 1 := by rw [IntKind.wrap_i64]; omega
   have w2 : IntKind.i64.wrap ((bb : Int) + 1 - (t : Int)) = (RS : Int) := by rw [IntKind.wrap_i64]; omega
   have w3 : IntKind.i64.wrap ((r : Int) + 1) = (r : Int) + 1 := by rw [IntKind.wrap_i64]; omega
   have w4 : IntKind.i64.wrap ((r : Int) + 1 - (l : Int)) = (CS : Int) := by rw [IntKind.wrap_i64]; omega
   have hRC : RS * CS ≤ 512 * 512 := Nat.mul_le_mul (by omega) (by omega)
   obtain ⟨M, hM⟩ : ∃ x, RS * CS = x := ⟨_, rfl⟩
   have w5 : IntKind.i64.wrap ((RS : Int) * (CS : Int)) = (M : Int) := by rw [← Int.natCast_mul, hM, IntKind.wrap_i64]; omega
   rw [hM] at hcel hRC
   have hbt : t ≤ bb + 1 := by omega
   clear hRS hCS hM
   simp only [List.length_nil]
   go_upto_region 20 with fail
   refine enterR (P := fun u => Code.wp _ _ _ _ u) (c := [.int .i64 (t : Int), .int .i64 (l : Int), .int .i64 (RS : Int), .int .i64 (CS : Int), .int .i64 0, .int .i64 0, .int .i64 0, .int .i64 0]) ?_
   intro y0 hby s0 zy hsy
   have hS1 := hS.below hby
   obtain ⟨⟨r1, zn1⟩, HB, hsz⟩ := hFin.out
   have hwM1 : w.heap.size + 1 ≠ gM := by omega
   have hPx : PxR w gM mt y0 := ⟨(gb_below HB).trans hS1.gb, hS1.m⟩
   obtain ⟨⟨⟨-, c1⟩, c2, c3, -⟩, hPl⟩ := hG.out y0 _ _ _ hS1
   have hzr : Zn y0 (w.heap.size + 1) := PxR.oz ⟨hS1.gb, hS1.m⟩ hwM1 zn1
   have hrr : y0.rangeAt (w.heap.size + 1) 0 z8 := fun j v hv => hS1.keep hwM1 (r1 j v hv)
   have hne1 : w.heap.size + 1 ≠ wr.heap.size := by have := hzr.lt; have := hS.size; have := hsz.out; omega
   clear hG hFin hS1 r1 zn1 HB hsz hS hby zy hsy
   obtain ⟨g5, hg5⟩ : ∃ g, wr.heap.size = g := ⟨_, rfl⟩
   rw [hg5] at s0 hne1 ⊢
   clear hg5
   have g2 : y0.cell? ⟨g5, 2, none⟩ = some (.int .i64 (RS : Int)) := s0 2 _ rfl
   have g3 : y0.cell? ⟨g5, 3, none⟩ = some (.int .i64 (CS : Int)) := s0 3 _ rfl
   have hfa := hid fun (c : Ce) (v : Value) (W : World) (hp : PxR w gM mt W) (h : celD p ⟨mt, [], n, t, bb, l, r⟩ = some c) (hv : v = ce0 c) => (show RetCel w gM p ⟨mt, [], n, t, bb, l, r⟩ (.returned (.tuple #[v, .bool true])) W from ⟨hp, v, ⟨c, hv⟩, by rw [h]; rfl, fun c' hc' => by rw [h] at hc'; injection hc' with e; rw [← e]; exact hv⟩)
   have hfn := hid fun (v : Value) (W : World) (hp : PxR w gM mt W) (h : celD p ⟨mt, [], n, t, bb, l, r⟩ = none) (hv : ∃ c, v = ce0 c) => (show RetCel w gM p ⟨mt, [], n, t, bb, l, r⟩ (.returned (.tuple #[v, .bool false])) W from ⟨hp, v, hv, by rw [h]; rfl, fun c' hc' => by rw [h] at hc'; cases hc'⟩)
   by_cases hnM : n = M
   ·subst hnM
    have hnMi : ((n : Int) == (n : Int)) = true := beq_self_eq_true _
    rw [if_pos rfl] at hcel
    have hsT := hid fun (row col : Nat) (h1 : t ≤ row ∧ row ≤ bb) (h2 : l ≤ col ∧ col ≤ r) (h : sepD p ⟨mt, [], n, t, bb, l, r⟩ row col = true) => (show celD p ⟨mt, [], n, t, bb, l, r⟩ = none from by
     rw [hcel.out, if_pos (sepA_hit h1 h2 h)])
    have hsF := hid fun (h : ∀ row col, t ≤ row → row ≤ bb → l ≤ col → col ≤ r → sepD p ⟨mt, [], n, t, bb, l, r⟩ row col = false) => (show celD p ⟨mt, [], n, t, bb, l, r⟩ = some ⟨t, l, RS, CS, ⟨0, 0, 0, 0⟩⟩ from by
     rw [hcel.out, sepA_miss h]; rfl)
    have hsD := hid fun (row col : Nat) => (show sepD p ⟨mt, [], n, t, bb, l, r⟩ row col = (decide (col < r) && at0 p.R (row * C + col) || decide (row < bb) && at0 p.B (row * C + col)) from by unfold sepD; rw [hC.out])
    have hPR := hid fun (j : Nat) (hj : j < N) => (show y0.cell? ⟨gR, j, none⟩ = some (.bool (at0 p.R j)) ∧ y0.cell? ⟨gB, j, none⟩ = some (.bool (at0 p.B j)) from ⟨hPl.R.at0 (by rw [hPl.lR, hN.out]; exact hj), hPl.B.at0 (by rw [hPl.lB, hN.out]; exact hj)⟩)
    have hin := hid fun (row col : Nat) (h1 : row ≤ bb) (h2 : col ≤ r) => (show row * C + col < N ∧ row * C ≤ 512 * 512 from by
     have := px_place (W := C) (H := R) (x := col) (y := row) (by omega) (by omega)
     have hNN := hN.out
     rw [hR.out, hC.out] at hNN
     rw [← hNN, Nat.mul_comm R C]
     exact ⟨this, Nat.mul_le_mul (by omega) hc4⟩)
    generalize sepD p ⟨mt, [], n, t, bb, l, r⟩ = sD at *
    clear hcel hPl
    go_wp2
    go_loopw [16] (fun s16 wr => ∃ row : Nat, s16 = .int .i64 (row : Int) ∧ t ≤ row ∧ row ≤ bb + 1 ∧ Hid (∀ rw' col, t ≤ rw' → rw' < row → l ≤ col → col ≤ r → sD rw' col = false) ∧ wr = y0) (fun s16 _ => bb + 1 - (intOf s16).toNat)
    case atStart => exact ⟨t, rfl, Nat.le_refl _, hbt, hid fun rw' _ h1 h2 => by omega, rfl⟩
    case round =>
     obtain ⟨row, rfl, h1, h2, hA, hwr⟩ := hrel
     rw [hwr]
     clear hwr wr
     by_cases hrb : row ≤ bb
     ·have hri : (row : Int) ≤ (bb : Int) := by omega
      have hlr2 : l ≤ r + 1 := by omega
      go_wp2
      go_loopw [17] (fun s17 wr => ∃ col : Nat, s17 = .int .i64 (col : Int) ∧ l ≤ col ∧ col ≤ r + 1 ∧ Hid (∀ col', l ≤ col' → col' < col → sD row col' = false) ∧ wr = y0) (fun s17 _ => r + 1 - (intOf s17).toNat)
      case atStart => exact ⟨l, rfl, Nat.le_refl _, hlr2, hid fun _ h1 h2 => by omega, rfl⟩
      case round =>
       obtain ⟨col, rfl, h3, h4, hB, hwr⟩ := hrel
       rw [hwr]
       clear hwr wr
       by_cases hcr : col ≤ r
       ·have hci : (col : Int) ≤ (r : Int) := by omega
        obtain ⟨hx1, hx2⟩ := hin.out row col hrb hcr
        have hD := hsD.out row col
        obtain ⟨P, hP⟩ : ∃ t, sD row col = t := ⟨_, rfl⟩
        rw [hP] at hD
        have hxi : ((row * C + col : Nat) : Int) < (N : Int) := by omega
        obtain ⟨q1, q2⟩ := hPR.out _ hx1
        have hw1 : IntKind.i64.wrap ((row : Int) * (C : Int)) = ((row * C : Nat) : Int) := by rw [IntKind.wrap_i64, ← Int.natCast_mul]; omega
        have hw2 : IntKind.i64.wrap (((row * C : Nat) : Int) + (col : Int)) = ((row * C + col : Nat) : Int) := by rw [IntKind.wrap_i64]; omega
        have hT := hid (hsT.out row col ⟨h1, hrb⟩ ⟨h3, hcr⟩)
        rw [hP] at hT
        replace hP := hid hP
        clear hx1 hx2
        generalize row * C + col = ix at *
        generalize row * C = iy at *
        generalize at0 p.R ix = vR at *
        generalize at0 p.B ix = vB at *
        go_upto_region 29 with fail
        go_cut [156] (fun s_ wx => s_ = .bool P ∧ wx = y0)
        case first =>
         clear hT hP hA hB hsT hsF hsD hPR hin hfa hfn hPx hzr hrr s0 hw1 hw2
         by_cases hc1 : col < r
         ·have hi1 : (col : Int) < (r : Int) := by omega
          rw [decide_eq_true hc1, Bool.true_and] at hD
          cases vR
          ·rw [Bool.false_or] at hD
           by_cases hc2 : row < bb
           ·have hi2 : (row : Int) < (bb : Int) := by omega
            rw [decide_eq_true hc2, Bool.true_and] at hD
            subst hD
            go_wp2_with fail
            go_meet
            exact ⟨rfl, rfl⟩
           ·have hi2 : ¬ (row : Int) < (bb : Int) := by omega
            rw [decide_eq_false hc2, Bool.false_and] at hD
            subst hD
            go_wp2_with fail
            go_meet
            exact ⟨rfl, rfl⟩
          ·rw [Bool.true_or] at hD
           subst hD
           go_wp2_with fail
           go_meet
           exact ⟨rfl, rfl⟩
         ·have hi1 : ¬ (col : Int) < (r : Int) := by omega
          rw [decide_eq_false hc1, Bool.false_and, Bool.false_or] at hD
          by_cases hc2 : row < bb
          ·have hi2 : (row : Int) < (bb : Int) := by omega
           rw [decide_eq_true hc2, Bool.true_and] at hD
           subst hD
           go_wp2_with fail
           go_meet
           exact ⟨rfl, rfl⟩
          ·have hi2 : ¬ (row : Int) < (bb : Int) := by omega
           rw [decide_eq_false hc2, Bool.false_and] at hD
           subst hD
           go_wp2_with fail
           go_meet
           exact ⟨rfl, rfl⟩
        obtain ⟨rfl, hwc⟩ := hcut
        rw [hwc]
        clear hwc wc hD q1 q2
        cases P
        ·have hB2 := hid fun col' (h1 : l ≤ col') (h2 : col' < col + 1) => (show sD row col' = false from by
          by_cases e : col' = col
          ·rw [e]; exact hP.out
          ·exact hB.out col' h1 (by omega))
         clear hB hT hP
         go_wp2
         go_roundw
         case rel => exact ⟨col + 1, by go_num, by omega, by omega, hB2, by first | rfl | trivial⟩
         case measure => simp [intOf]; omega
        ·have hcel := hid (hT.out (by first | rfl | trivial))
         clear hT hP hA hB hsT hsF hsD hPR hin hfa s0
         have k0 : y0.cell? ⟨w.heap.size + 1, 0, none⟩ = some (.int .i64 0) := hrr 0 _ rfl
         have k1 : y0.cell? ⟨w.heap.size + 1, 1, none⟩ = some (.int .i64 0) := hrr 1 _ rfl
         have k2 : y0.cell? ⟨w.heap.size + 1, 2, none⟩ = some (.int .i64 0) := hrr 2 _ rfl
         have k3 : y0.cell? ⟨w.heap.size + 1, 3, none⟩ = some (.int .i64 0) := hrr 3 _ rfl
         have k4 : y0.cell? ⟨w.heap.size + 1, 4, none⟩ = some (.int .i64 0) := hrr 4 _ rfl
         have k5 : y0.cell? ⟨w.heap.size + 1, 5, none⟩ = some (.int .i64 0) := hrr 5 _ rfl
         have k6 : y0.cell? ⟨w.heap.size + 1, 6, none⟩ = some (.int .i64 0) := hrr 6 _ rfl
         have k7 : y0.cell? ⟨w.heap.size + 1, 7, none⟩ = some (.int .i64 0) := hrr 7 _ rfl
         have fk := hzr.fr
         have hPf := hid ((((((((hPx.setF (i := 0) (v := .int .i64 0) hwl (Nat.le_succ _)).setF (i := 1) (v := .int .i64 0) hwl (Nat.le_succ _)).setF (i := 2) (v := .int .i64 0) hwl (Nat.le_succ _)).setF (i := 3) (v := .int .i64 0) hwl (Nat.le_succ _)).setF (i := 4) (v := .int .i64 0) hwl (Nat.le_succ _)).setF (i := 5) (v := .int .i64 0) hwl (Nat.le_succ _)).setF (i := 6) (v := .int .i64 0) hwl (Nat.le_succ _)).setF (i := 7) (v := .int .i64 0) hwl (Nat.le_succ _))
         clear hPx hrr hzr
         go_wp2
         refine bodyPost_ret (v := .tuple #[.agg #[.int .i64 0, .int .i64 0, .int .i64 0, .int .i64 0, .int .i64 0, .int .i64 0, .int .i64 0, .int .i64 0], .bool false]) ?_ rfl ?_
         ·simp [results, Try.results31, go_sem, k0, k1, k2, k3, k4, k5, k6, k7]
         ·exact hfn.out _ _ hPf.out hcel.out ⟨⟨0, 0, 0, 0, ⟨0, 0, 0, 0⟩⟩, rfl⟩
       ·obtain rfl : col = r + 1 := by omega
        have hci : ¬ ((r : Int) + 1) ≤ (r : Int) := by omega
        have hA2 := hid fun rw' col' (a : t ≤ rw') (b : rw' < row + 1) (c : l ≤ col') (d : col' ≤ r) => (show sD rw' col' = false from by
         by_cases e : rw' = row
         ·rw [e]; exact hB.out col' c (by omega)
         ·exact hA.out rw' col' a (by omega) c d)
        clear hA hB
        go_wp2
        go_roundw
        case rel => exact ⟨row + 1, by go_num, by omega, by omega, hA2, by first | rfl | trivial⟩
        case measure => simp [intOf]; omega
     ·obtain rfl : row = bb + 1 := by omega
      have hri : ¬ ((bb : Int) + 1) ≤ (bb : Int) := by omega
      have hcel := hid (hsF.out fun rw' col a b c d => hA.out rw' col a (by omega) c d)
      clear hA hsT hsF hsD hPR hin hfn c1 c2 c3
      have g0 : y0.cell? ⟨g5, 0, none⟩ = some (.int .i64 (t : Int)) := s0 0 _ rfl
      have g1 : y0.cell? ⟨g5, 1, none⟩ = some (.int .i64 (l : Int)) := s0 1 _ rfl
      have g4 : y0.cell? ⟨g5, 4, none⟩ = some (.int .i64 0) := s0 4 _ rfl
      have g5_ : y0.cell? ⟨g5, 5, none⟩ = some (.int .i64 0) := s0 5 _ rfl
      have g6 : y0.cell? ⟨g5, 6, none⟩ = some (.int .i64 0) := s0 6 _ rfl
      have g7 : y0.cell? ⟨g5, 7, none⟩ = some (.int .i64 0) := s0 7 _ rfl
      have k0 : y0.cell? ⟨w.heap.size + 1, 0, none⟩ = some (.int .i64 0) := hrr 0 _ rfl
      have k1 : y0.cell? ⟨w.heap.size + 1, 1, none⟩ = some (.int .i64 0) := hrr 1 _ rfl
      have k2 : y0.cell? ⟨w.heap.size + 1, 2, none⟩ = some (.int .i64 0) := hrr 2 _ rfl
      have k3 : y0.cell? ⟨w.heap.size + 1, 3, none⟩ = some (.int .i64 0) := hrr 3 _ rfl
      have k4 : y0.cell? ⟨w.heap.size + 1, 4, none⟩ = some (.int .i64 0) := hrr 4 _ rfl
      have k5 : y0.cell? ⟨w.heap.size + 1, 5, none⟩ = some (.int .i64 0) := hrr 5 _ rfl
      have k6 : y0.cell? ⟨w.heap.size + 1, 6, none⟩ = some (.int .i64 0) := hrr 6 _ rfl
      have k7 : y0.cell? ⟨w.heap.size + 1, 7, none⟩ = some (.int .i64 0) := hrr 7 _ rfl
      have fk := hzr.fr
      have hPf := hid ((((((((hPx.setF (i := 0) (v := .int .i64 (t : Int)) hwl (Nat.le_succ _)).setF (i := 1) (v := .int .i64 (l : Int)) hwl (Nat.le_succ _)).setF (i := 2) (v := .int .i64 (RS : Int)) hwl (Nat.le_succ _)).setF (i := 3) (v := .int .i64 (CS : Int)) hwl (Nat.le_succ _)).setF (i := 4) (v := .int .i64 0) hwl (Nat.le_succ _)).setF (i := 5) (v := .int .i64 0) hwl (Nat.le_succ _)).setF (i := 6) (v := .int .i64 0) hwl (Nat.le_succ _)).setF (i := 7) (v := .int .i64 0) hwl (Nat.le_succ _))
      clear hPx hrr hzr s0
      go_wp2
      refine bodyPost_ret (v := .tuple #[.agg #[.int .i64 (t : Int), .int .i64 (l : Int), .int .i64 (RS : Int), .int .i64 (CS : Int), .int .i64 0, .int .i64 0, .int .i64 0, .int .i64 0], .bool true]) ?_ rfl ?_
      ·simp [results, Try.results31, go_sem, k0, k1, k2, k3, k4, k5, k6, k7]
      ·exact hfa.out _ _ _ hPf.out hcel.out rfl
   ·have hnMi : ((n : Int) == (M : Int)) = false := by rw [beq_eq_false_iff_ne]; omega
    rw [if_neg hnM] at hcel
    clear hfa s0 c1 c2 c3 hPl
    have k0 : y0.cell? ⟨w.heap.size + 1, 0, none⟩ = some (.int .i64 0) := hrr 0 _ rfl
    have k1 : y0.cell? ⟨w.heap.size + 1, 1, none⟩ = some (.int .i64 0) := hrr 1 _ rfl
    have k2 : y0.cell? ⟨w.heap.size + 1, 2, none⟩ = some (.int .i64 0) := hrr 2 _ rfl
    have k3 : y0.cell? ⟨w.heap.size + 1, 3, none⟩ = some (.int .i64 0) := hrr 3 _ rfl
    have k4 : y0.cell? ⟨w.heap.size + 1, 4, none⟩ = some (.int .i64 0) := hrr 4 _ rfl
    have k5 : y0.cell? ⟨w.heap.size + 1, 5, none⟩ = some (.int .i64 0) := hrr 5 _ rfl
    have k6 : y0.cell? ⟨w.heap.size + 1, 6, none⟩ = some (.int .i64 0) := hrr 6 _ rfl
    have k7 : y0.cell? ⟨w.heap.size + 1, 7, none⟩ = some (.int .i64 0) := hrr 7 _ rfl
    have fk := hzr.fr
    have hPf := hid ((((((((hPx.setF (i := 0) (v := .int .i64 0) hwl (Nat.le_succ _)).setF (i := 1) (v := .int .i64 0) hwl (Nat.le_succ _)).setF (i := 2) (v := .int .i64 0) hwl (Nat.le_succ _)).setF (i := 3) (v := .int .i64 0) hwl (Nat.le_succ _)).setF (i := 4) (v := .int .i64 0) hwl (Nat.le_succ _)).setF (i := 5) (v := .int .i64 0) hwl (Nat.le_succ _)).setF (i := 6) (v := .int .i64 0) hwl (Nat.le_succ _)).setF (i := 7) (v := .int .i64 0) hwl (Nat.le_succ _))
    clear hPx hrr hzr
    go_wp2
    refine bodyPost_ret (v := .tuple #[.agg #[.int .i64 0, .int .i64 0, .int .i64 0, .int .i64 0, .int .i64 0, .int .i64 0, .int .i64 0, .int .i64 0], .bool false]) ?_ rfl ?_
    ·simp [results, Try.results31, go_sem, k0, k1, k2, k3, k4, k5, k6, k7]
    ·exact hfn.out _ _ hPf.out hcel.out ⟨⟨0, 0, 0, 0, ⟨0, 0, 0, 0⟩⟩, rfl⟩
  ·rw [List.concat_eq_append] at he
   obtain ⟨haN, hpu, hf1, hD2, hf2, hse⟩ := hSt.out s st a hD he
   rw [hN.out] at haN
   have hbn : s.n + fuelD s ≤ N + 1 := by have := hD.n; rwa [hN.out] at this
   obtain ⟨k, hk⟩ : ∃ k, s.st.length = k + 1 := ⟨st.length, by rw [he]; simp⟩
   have hS1 := hS
   rw [hk, he] at hS1
   rw [hk]
   obtain ⟨hrd, -⟩ := hS1.o.rd2 NaKo
   have hks : st.length = k := by have := congrArg List.length he; simp at this; omega
   obtain ⟨b, o, hA3, hc⟩ := hrd.at_ (j := k) (by simp [hks])
   have e0 : wr.cell? ⟨b, o + k * 1, none⟩ = some (.int .i64 (a : Int)) := by
    have := hc 0 (.int .i64 (a : Int)) (by simp [NaK, ← hks])
    exact this
   rw [Nat.mul_one] at e0
   subst hA3
   have hk4 : k ≤ 512 * 512 + 1 := by
    have : s.st.length ≤ fuelD s := by unfold fuelD; omega
    omega
   have hwk : IntKind.i64.wrap ((k : Int) + 1 - 1) = (k : Int) := by rw [IntKind.wrap_i64]; omega
   have hki : (k : Int) < (k : Int) + 1 := by omega
   have hk0 : (0 : Int) < (k : Int) + 1 := by omega
   obtain ⟨y, hy⟩ : ∃ y, a / C = y := ⟨_, rfl⟩
   obtain ⟨x, hx⟩ : ∃ x, a % C = x := ⟨_, rfl⟩
   have hdv : Int.tdiv (a : Int) (C : Int) = (y : Int) := by rw [← hy, ← Int.ofNat_tdiv]
   have hmv : Int.tmod (a : Int) (C : Int) = (x : Int) := by rw [← hx, ← Int.ofNat_tmod]
   replace hy := hid hy
   replace hx := hid hx
   have hyR : y < R := by
    rw [← hy.out]
    refine Nat.div_lt_of_lt_mul ?_
    have := hN.out; rw [hR.out, hC.out] at this
    rw [Nat.mul_comm, this]; exact haN
   have hxC : x < C := by rw [← hx.out]; exact Nat.mod_lt _ hC0
   have hwy : IntKind.i64.wrap (y : Int) = (y : Int) := by rw [IntKind.wrap_i64]; omega
   have hwx : IntKind.i64.wrap (x : Int) = (x : Int) := by rw [IntKind.wrap_i64]; omega
   have hSp : Sta u wr gM s.met (.slice (some ⟨b, o, none⟩) k cA) st := ⟨hS1.gb, hS1.m, hS1.o.pop NaKo, hS1.lt⟩
   have hkc : k ≤ cA := by have := hrd.cap; simp at this; omega
   replace hks := hid hks
   replace he := hid he
   replace hk := hid hk
   replace hse := hid hse
   clear hc hrd
   go_upto_region 10 with fail
   go_quiet (fail)
   have hv : Below wr.heap.size wr (wr.drewN nq) := below_drewN (Below.refl _ _) _
   generalize wr.drewN nq = x1 at hv ⊢
   have hSp := hSp.below hv
   replace c0 := keep_cell hv c0
   replace c1 := keep_cell hv c1
   replace c2 := keep_cell hv c2
   replace c3 := keep_cell hv c3
   replace c4 := keep_cell hv c4
   clear hS hS1 hv hPl e0
   go_upto_region 11 with fail
   go_quiet (fail)
   have hv : Below x1.heap.size x1 (x1.drewN nq) := below_drewN (Below.refl _ _) _
   generalize x1.drewN nq = x2 at hv ⊢
   have hSp := hSp.below hv
   replace c0 := keep_cell hv c0
   replace c1 := keep_cell hv c1
   replace c2 := keep_cell hv c2
   replace c3 := keep_cell hv c3
   replace c4 := keep_cell hv c4
   clear hv hmn hmx hdv hmv hwy hwx
   have hcall := hid (hNx.out x2 _ _ _ hSp a haN)
   have hSp := hid hSp
   go_wp2_with fail
   refine hcall.out.mono ?_
   rintro e x3 ⟨v77, rfl, hOL, hv⟩
   obtain ⟨A7, c7, rfl⟩ := hOL.form NaKo
   have hSq := hSp.out.below hv
   have hsep : (Value.slice A7 (nxtL p a).length c7).ownBlock = none ∨ (Value.slice A7 (nxtL p a).length c7).ownBlock ≠ (Value.slice (some ⟨b, o, none⟩) k cA).ownBlock := own_sep hOL hSp.out.o (Nat.le_refl _)
   have hll := nxt_len p a
   have hLN := hid fun z (hz : z ∈ nxtL p a) => (show z < N from by rw [← hN.out]; exact nxt_lt (by rw [hN.out]; exact haN) z hz)
   generalize nxtL p a = L at *
   obtain ⟨m, hm⟩ : ∃ m, L.length = m := ⟨_, rfl⟩
   rw [hm] at hsep hOL hll ⊢
   replace hm := hid hm
   clear hSp hcall hv c0 c1 c2 c3 c4
   obtain ⟨Qf, hQf⟩ : ∃ Q : Nat → List Bool × List Nat, Q = fun j => (L.take j).foldl pushD (s.met, st) := ⟨_, rfl⟩
   have hQ0 : Qf 0 = (s.met, st) := by rw [hQf]; rfl
   have hQs := hid fun j (h : j < L.length) => (show Qf (j + 1) = pushD (Qf j) L[j] from by rw [hQf]; exact fold_succ h)
   have hQm := hid (show Qf m = L.foldl pushD (s.met, st) from by rw [hQf, ← hm.out]; exact fold_all)
   have hQp := hid fun j => (show PuOk N (fuelD s - 1) (Qf j) from by
    rw [hQf, ← hN.out]
    exact PuOk.fold _ _ hpu fun z hz => by rw [hN.out]; exact hLN.out z (List.mem_of_mem_take hz))
   rw [← hQm.out, hC.out, hy.out, hx.out] at hse
   have hSq0 : Sta u x3 gM (Qf 0).1 (.slice (some ⟨b, o, none⟩) k cA) (Qf 0).2 := by rw [hQ0]; exact hSq
   clear hQf hpu hSq
   go_wp2
   go_loopw [79, 11] (fun s79 s11 wz => ∃ j : Nat, s79 = .int .i64 (j : Int) ∧ j ≤ m ∧ Sta u wz gM (Qf j).1 s11 (Qf j).2 ∧ NaK.Own wz x2.heap.size (.slice A7 m c7) L ∧ ((Value.slice A7 m c7).ownBlock = none ∨ (Value.slice A7 m c7).ownBlock ≠ s11.ownBlock)) (fun s79 _ _ => m - (intOf s79).toNat)
   case atStart => exact ⟨0, rfl, by omega, hSq0, hOL, hsep⟩
   case round =>
    clear hSq0 hOL hsep
    obtain ⟨j, rfl, hj, hS, hOL, hsep⟩ := hrel
    by_cases hjm : j < m
    ·have hji : (j : Int) < (m : Int) := by omega
     have hjl : j < L.length := by have := hm.out; omega
     obtain ⟨⟨-, -, -, c4⟩, -⟩ := hG.out wr _ _ _ hS
     obtain ⟨hrd, -⟩ := hOL.rd2 NaKo
     obtain ⟨b2, o2, hA3, hc⟩ := hrd.at_ hjl
     have e0 : wr.cell? ⟨b2, o2 + j * 1, none⟩ = some (.int .i64 (L[j] : Int)) := hc 0 _ rfl
     rw [Nat.mul_one] at e0
     subst hA3
     have hzN : L[j] < N := hLN.out _ (List.getElem_mem hjl)
     have hq1 := hid (hQs.out j hjl)
     obtain ⟨hp1, hp2, hp3⟩ := hQp.out j
     have hst4 : (Qf j).2.length ≤ 100000000 := by omega
     clear hc hrd hp3
     generalize L[j] = z at *
     have hx0 := hS.m.at0 (i := z) (by omega)
     have hfz := hS.m.z.fr
     have hzi : (z : Int) < (N : Int) := by omega
     cases hz : at0 (Qf j).1 z
     ·rw [push_new hz] at hq1
      rw [hz] at hx0
      have hS2 := hS.set (j := z) (by omega) true
      have hO2 := hOL.grown (gb_set (w := wr) (g := gM) (i := z) (v := .bool true)) (.inr fun e => by
       have := (hOL.lt e).1
       have := hSp.size
       omega)
      have hal : Below (wr.setCell ⟨gM, z, none⟩ (.bool true)).heap.size (wr.setCell ⟨gM, z, none⟩ (.bool true)) ((wr.setCell ⟨gM, z, none⟩ (.bool true)).alloc (.cells #[.int .i64 (z : Int)] 3)) := (Below.refl _ _).alloc (Nat.le_refl _) _
      have hS3 := hS2.below hal
      have hO3 := hO2.below hal
      have hr := rng_alloc (w := wr.setCell ⟨gM, z, none⟩ (.bool true)) (cs := [.int .i64 (z : Int)]) (t := 3)
      rw [World.size_setCell] at hr
      have hsz3 := hS3.size
      have hSh := hid hS3
      have hOh := hid hO3
      have hsh := hid hsep
      clear hS hOL hsep hS2 hO2 hal hS3 hO3
      go_wp2_with (at_builtin; go_loud (refine Knd.app1 NaKo rfl (.tmp 93) (.tmp 95) rfl u.heap.size u11 (Qf j).2 z wr.heap.size rfl hSh.out.o rfl hr (by omega) hsz3 ?_); intro v' w' hO' hg' hat'; have hS' := hid (hSh.out.app hO' hg'); have hOL' := hid (hOh.out.grown hg' hsh.out); have hs' := hid (sep_app hOh.out hsh.out hat'); clear hg' hat' hO' hSh hOh hsh hr)
      go_roundw
      case rel => exact ⟨j + 1, by go_num, by omega, by rw [hq1.out]; exact hS'.out, hOL'.out, hs'.out⟩
      case measure => simp [intOf]; omega
     ·rw [push_met hz] at hq1
      rw [hz] at hx0
      have hS2 := hid hS
      have hO2 := hid hOL
      have hs2 := hid hsep
      clear hS hOL hsep
      go_wp2
      go_roundw
      case rel => exact ⟨j + 1, by go_num, by omega, by rw [hq1.out]; exact hS2.out, hO2.out, hs2.out⟩
      case measure => simp [intOf]; omega
    ·obtain rfl : j = m := by omega
     have hji : ¬ (j : Int) < (j : Int) := by omega
     have hS2 := hid hS
     clear hS hOL hsep
     go_wp2
     go_roundw
     case rel => exact ⟨stepD p s a, by rw [hse.out]; refine ⟨⟨?_, ?_⟩, ⟨?_, ?_⟩, ?_⟩ <;> (dsimp only; first | rfl | (congr 1; omega)), hD2, by rw [hse.out]; exact hS2.out⟩
     case measure => simp [intOf]; omega
end Go.Proofs.Ytjfgklhifhaaoaa
