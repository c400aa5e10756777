/- Tables: the spans of a direction. Conditions: valid lines, at most 100000, small bands. -/
import Derived.Test.YtjfgklhifhaaoaaZTw16
set_option linter.unusedVariables false
set_option linter.unusedSimpArgs false
namespace Go.Proofs.Ytjfgklhifhaaoaa
open Go.RowKit
theorem spn_cast {own oth : List (Int × Int)} {r : Ru} (ho : (r.a, r.t) ∈ own) (hb : spnB own oth r = true) :
  ((spnI own oth r).1 = ((spnO own oth r).n : Int) ∧ (spnI own oth r).2.1 = ((spnO own oth r).f : Int)) ∧ (spnI own oth r).2.2 = ((spnO own oth r).o : Int) := by
 have h := of_decide_eq_true hb
 have h0 : 0 ≤ (spnI own oth r).1 := idxP_mem ho (decide_eq_true rfl)
 unfold spnO
 dsimp only
 omega
theorem ofV_succ {l : List Ru} {v : Bool} {i : Nat} (h : i < l.length) : ofV (l.take (i + 1)) v = ofV (l.take i) v ++ (if l[i].v = v then [l[i]] else []) := by
 unfold ofV
 rw [List.take_succ_eq_append_getElem h, List.filter_append]
 congr 1
 by_cases e : l[i].v = v <;> simp [e]
def RetSp (w : World) (t : Bool) (L : List Sp) (e : Ending) (w' : World) : Prop := Below w.heap.size w w' ∧ if t then ∃ u S, e = .returned (.tuple #[u, .bool true]) ∧ SpK.Own w' w.heap.size u S ∧ S.Perm L ∧ S.Pairwise (fun a b => ¬ cmpS b a < 0) else e = .returned (.tuple #[.slice none 0 0, .bool false])
theorem spnL_len (l : List Ru) (v : Bool) (own oth : List (Int × Int)) : (spnL l v own oth).length ≤ l.length := by
 unfold spnL ofV
 rw [List.length_map]
 exact List.length_filter_le _ _
set_option maxRecDepth 100000 in
set_option maxHeartbeats 8000000 in
theorem Tspn_g (l : List Ru) (A : Option Addr) (c : Nat) (v : Bool) (own oth : List (Int × Int)) (B C : Option Addr) (cb cc0 : Nat) {w : World} (hl : RuK.Rd w A c l) (hB : BdK.Rd w B cb own) (hC : BdK.Rd w C cc0 oth) (h4 : l.length ≤ 100000)
  (hown : ∀ r ∈ l, r.v = v → (r.a, r.t) ∈ own) (hsm : BdS oth) :
  Calls Try.prog 43 #[.slice A l.length c, .bool v, .slice B own.length cb, .slice C oth.length cc0] w (RetSp w (spnA l v own oth) (spnL l v own oth)) := by
 obtain ⟨n, hn⟩ : ∃ n, l.length = n := ⟨_, rfl⟩
 obtain ⟨tt, htt⟩ : ∃ t, spnA l v own oth = t := ⟨_, rfl⟩
 have hM := hid fun (j : Nat) (hj : j < n) (W : World) (hb : Below w.heap.size w W) => (hl.below hb).at_ (j := j) (by omega)
 have ccc := Nat.le_trans hl.cap hl.max
 have HI := hid fun (W : World) (hb : Below w.heap.size w W) (x : Int × Int) => Ixb_g own B cb x (hB.below hb)
 have HF1 := hid fun (W : World) (hb : Below w.heap.size w W) (r : Ru) (gr : Nat) (hr : W.rangeAt gr 0 [.bool r.v, .int .i64 r.a, .int .i64 r.t, .int .i64 r.f, .int .i64 r.o]) => Ifb_g oth C cc0 (fun b => decide (b.1 = r.f)) 57 #[.pointer (some ⟨gr, 0, none⟩)] (hC.below hb) (enters_of Try.func57 (by kernel_rfl) rfl) (fun V hv b hbm => Sp1_g b r gr (rng_below hr hv) (hsm b hbm))
 have HF2 := hid fun (W : World) (hb : Below w.heap.size w W) (r : Ru) (gr : Nat) (hr : W.rangeAt gr 0 [.bool r.v, .int .i64 r.a, .int .i64 r.t, .int .i64 r.f, .int .i64 r.o]) => Ifb_g oth C cc0 (fun b => decide (b.1 + b.2 = r.o)) 58 #[.pointer (some ⟨gr, 0, none⟩)] (hC.below hb) (enters_of Try.func58 (by kernel_rfl) rfl) (fun V hv b hbm => Sp2_g b r gr (rng_below hr hv) (hsm b hbm))
 have hmem := hid fun (i : Nat) (h : i < l.length) (hv : l[i].v = v) => hown _ (List.getElem_mem h) hv
 have hcs := hid fun (r : Ru) (ho : (r.a, r.t) ∈ own) (hb : spnB own oth r = true) => spn_cast ho hb
 have hst := hid fun (i : Nat) (h : i < l.length) => (show spnL (l.take (i + 1)) v own oth = spnL (l.take i) v own oth ++ (if l[i].v = v then [spnO own oth l[i]] else []) from by
  unfold spnL
  rw [ofV_succ h, List.map_append]
  congr 1
  split <;> rfl)
 have hal := hid fun (i : Nat) (h : i < l.length) => (show spnA (l.take (i + 1)) v own oth = (spnA (l.take i) v own oth && if l[i].v = v then spnB own oth l[i] else true) from by
  unfold spnA
  rw [ofV_succ h, List.all_append]
  congr 1
  split <;> simp)
 have hno := hid fun (i : Nat) (h : i < l.length) (hv : l[i].v = v) (hb : spnB own oth l[i] = false) => (show tt = false from by
  rw [← htt]
  unfold spnA ofV
  rw [List.all_eq_false]
  exact ⟨l[i], List.mem_filter.2 ⟨List.getElem_mem h, by simp [hv]⟩, by rw [hb]; simp⟩)
 have hall := hid (show spnA (l.take l.length) v own oth = tt ∧ spnL (l.take l.length) v own oth = spnL l v own oth from by rw [List.take_length]; exact ⟨htt, rfl⟩)
 have hlen := hid fun (i : Nat) => (show (spnL (l.take i) v own oth).length ≤ l.length from Nat.le_trans (spnL_len _ _ _ _) (by rw [List.length_take]; omega))
 have hO0 : SpK.Own w w.heap.size (.slice none 0 0) (spnL (l.take 0) v own oth) := Knd.Own.nil _ _
 have hT0 : Hid (spnA (l.take 0) v own oth = true) := rfl
 rw [htt]
 rw [hn] at ccc h4 hall hlen ⊢
 replace hn := hid hn
 generalize spnL l v own oth = LL at *
 obtain ⟨BL, hBL⟩ : ∃ f, (fun i => spnL (l.take i) v own oth) = f := ⟨_, rfl⟩
 obtain ⟨TL, hTL⟩ : ∃ f, (fun i => spnA (l.take i) v own oth) = f := ⟨_, rfl⟩
 replace hst : Hid (∀ (i : Nat) (h : i < l.length), BL (i + 1) = BL i ++ (if l[i].v = v then [spnO own oth l[i]] else [])) := by rw [← hBL]; exact hst
 replace hal : Hid (∀ (i : Nat) (h : i < l.length), TL (i + 1) = (TL i && if l[i].v = v then spnB own oth l[i] else true)) := by rw [← hTL]; exact hal
 replace hall : Hid (TL n = tt ∧ BL n = LL) := by rw [← hTL, ← hBL]; exact hall
 replace hlen : Hid (∀ i, (BL i).length ≤ n) := by rw [← hBL]; exact hlen
 replace hO0 : SpK.Own w w.heap.size (.slice none 0 0) (BL 0) := by rw [← hBL]; exact hO0
 replace hT0 : Hid (TL 0 = true) := by rw [← hTL]; exact hT0
 obtain ⟨nb, hnb⟩ : ∃ z, own.length = z := ⟨_, rfl⟩
 obtain ⟨nc, hnc⟩ : ∃ z, oth.length = z := ⟨_, rfl⟩
 rw [hnb] at HI ⊢
 rw [hnc] at HF1 HF2 ⊢
 clear hl hB hC hown hsm htt hBL hTL hnb hnc
 go_enter Try.func43, Try.ntmps43
 go_wp2
 go_loopw [16, 10] (fun s16 s10 wr => ∃ i : Nat, s16 = .int .i64 (i : Int) ∧ i ≤ n ∧ Hid (TL i = true) ∧ SpK.Own wr w.heap.size s10 (BL i) ∧ Below w.heap.size w wr) (fun s16 _ _ => n - (intOf s16).toNat)
 case atStart => exact ⟨0, rfl, by omega, hT0, hO0, Below.refl _ _⟩
 case round =>
  clear hO0 hT0
  obtain ⟨i, rfl, hi, hT, hO, HB⟩ := hrel
  by_cases hin : i < n
  ·have hii : (i : Int) < (n : Int) := by omega
   have hil : i < l.length := by have := hn.out; omega
   obtain ⟨b, o, hA3, hc⟩ := hM.out i hin wr HB
   have f0 : wr.cell? ⟨b, (o + i * 5), none⟩ = some (.bool l[i].v) := hc 0 _ rfl
   have f1 : wr.cell? ⟨b, (o + i * 5) + 1, none⟩ = some (.int .i64 l[i].a) := hc 1 _ rfl
   have f2 : wr.cell? ⟨b, (o + i * 5) + 2, none⟩ = some (.int .i64 l[i].t) := hc 2 _ rfl
   have f3 : wr.cell? ⟨b, (o + i * 5) + 3, none⟩ = some (.int .i64 l[i].f) := hc 3 _ rfl
   have f4 : wr.cell? ⟨b, (o + i * 5) + 4, none⟩ = some (.int .i64 l[i].o) := hc 4 _ rfl
   have hs1 := hid (hst.out i hil)
   have ha1 := hid (hal.out i hil)
   have hm1 := hid (hmem.out i hil)
   have hn1 := hid (hno.out i hil)
   have hlb := hlen.out i
   clear hc
   subst hA3
   generalize l[i] = z at *
   obtain ⟨zv, za, zt, zf, zo⟩ := z
   dsimp only at f0 f1 f2 f3 f4 hs1 ha1 hm1 hn1
   clear hM hst hlen hall hal hmem hno
   go_upto_region 5 with fail
   refine enterR (P := fun u => Code.wp _ _ _ _ u) (c := [.bool zv, .int .i64 za, .int .i64 zt, .int .i64 zf, .int .i64 zo]) ?_
   intro x hbx s0 zx hsx
   have s0h := hid s0
   clear zx f0 f1 f2 f3 f4
   have f0 : (x).cell? ⟨wr.heap.size, 0, none⟩ = some (.bool zv) := s0 0 _ rfl
   have f1 : (x).cell? ⟨wr.heap.size, 1, none⟩ = some (.int .i64 za) := s0 1 _ rfl
   have f2 : (x).cell? ⟨wr.heap.size, 2, none⟩ = some (.int .i64 zt) := s0 2 _ rfl
   have f3 : (x).cell? ⟨wr.heap.size, 3, none⟩ = some (.int .i64 zf) := s0 3 _ rfl
   have f4 : (x).cell? ⟨wr.heap.size, 4, none⟩ = some (.int .i64 zo) := s0 4 _ rfl
   clear s0
   replace hO := hO.below hbx
   replace HB := bel_step HB hbx
   clear hbx hsx
   by_cases hv : zv = v
   ·subst hv
    have hs2 := hid (show BL (i + 1) = BL i ++ [spnO own oth ⟨zv, za, zt, zf, zo⟩] from by have := hs1.out; rwa [if_pos rfl] at this)
    have ha2 := hid (show TL (i + 1) = spnB own oth ⟨zv, za, zt, zf, zo⟩ from by have := ha1.out; rw [if_pos rfl, hT.out] at this; simpa using this)
    have hme := hm1.out rfl
    have hcs2 := hid (hcs.out ⟨zv, za, zt, zf, zo⟩ hme)
    have hn2 := hid (hn1.out rfl)
    obtain ⟨I0, hI0⟩ : ∃ z, idxP (fun b => decide (b = (za, zt))) own = z := ⟨_, rfl⟩
    obtain ⟨I1, hI1⟩ : ∃ z, idxP (fun b => decide (b.1 = zf)) oth = z := ⟨_, rfl⟩
    obtain ⟨I2, hI2⟩ : ∃ z, idxP (fun b => decide (b.1 + b.2 = zo)) oth = z := ⟨_, rfl⟩
    have hsI : spnI own oth ⟨zv, za, zt, zf, zo⟩ = (I0, I1, I2) := by unfold spnI; rw [hI0, hI1, hI2]
    have hB1 := hid (show (0 ≤ I1 ∧ I1 < I2) → spnB own oth ⟨zv, za, zt, zf, zo⟩ = true from fun h => by unfold spnB; rw [hsI]; exact decide_eq_true h)
    have hB2 := hid (show ¬ (0 ≤ I1 ∧ I1 < I2) → spnB own oth ⟨zv, za, zt, zf, zo⟩ = false from fun h => by unfold spnB; rw [hsI]; exact decide_eq_false h)
    replace hcs2 : Hid (spnB own oth ⟨zv, za, zt, zf, zo⟩ = true → (I0 = ((spnO own oth ⟨zv, za, zt, zf, zo⟩).n : Int) ∧ I1 = ((spnO own oth ⟨zv, za, zt, zf, zo⟩).f : Int)) ∧ I2 = ((spnO own oth ⟨zv, za, zt, zf, zo⟩).o : Int)) := by
     have := hcs2.out
     rw [hsI] at this
     exact this
    have h0 := hid (show Calls Try.prog 55 #[.slice B nb cb, .agg #[.int .i64 za, .int .i64 zt]] x (RetI x I0) from by rw [← hI0]; exact HI.out x HB (za, zt))
    have h1 := hid fun (W : World) (hb : Below x.heap.size x W) => (show Calls Try.prog 56 #[.slice C nc cc0, .func (.func 57) #[] #[.pointer (some ⟨wr.heap.size, 0, none⟩)]] W (RetI W I1) from by rw [← hI1]; exact HF1.out W (bel_step HB hb) ⟨zv, za, zt, zf, zo⟩ _ (rng_below s0h.out hb))
    have h2 := hid fun (W : World) (hb : Below x.heap.size x W) => (show Calls Try.prog 56 #[.slice C nc cc0, .func (.func 58) #[] #[.pointer (some ⟨wr.heap.size, 0, none⟩)]] W (RetI W I2) from by rw [← hI2]; exact HF2.out W (bel_step HB hb) ⟨zv, za, zt, zf, zo⟩ _ (rng_below s0h.out hb))
    clear hs1 ha1 hm1 hn1 hme hsI hI0 hI1 hI2 HI HF1 HF2 hcs
    go_wp2_with fail
    refine h0.out.mono ?_
    rintro e x1 ⟨rfl, hq1⟩
    go_wp2_with fail
    refine (h1.out x1 hq1).mono ?_
    rintro e x2 ⟨rfl, hq2⟩
    have hq2 := bel_step hq1 hq2
    go_wp2_with fail
    refine (h2.out x2 hq2).mono ?_
    rintro e x3 ⟨rfl, hq3⟩
    have hq3 := bel_step hq2 hq3
    replace hO := hO.below hq3
    replace HB := bel_step HB hq3
    clear h0 h1 h2 hq1 hq2 hq3 f0 f1 f2 f3 f4 s0h
    by_cases hg : 0 ≤ I1 ∧ I1 < I2
    ·have hBt := hB1.out hg
     obtain ⟨⟨c0, c1⟩, c2⟩ := hcs2.out hBt
     have hTt := hid (ha2.out.trans hBt)
     generalize spnO own oth ⟨zv, za, zt, zf, zo⟩ = q at *
     obtain ⟨q0, q1, q2⟩ := q
     dsimp only at c0 c1 c2
     subst c0 c1 c2
     have hg1 : ¬ (q1 : Int) < 0 := by omega
     have hg2 : ¬ (q2 : Int) ≤ (q1 : Int) := by omega
     clear hB1 hB2 hcs2 ha2 hBt hn2 hg
     go_upto_region 7 with fail
     refine enterR (P := fun u => Code.wp _ _ _ _ u) (c := [.int .i64 (q0 : Int), .int .i64 (q1 : Int), .int .i64 (q2 : Int)]) ?_
     intro y hby s0 zy hsy
     have d0 : y.cell? ⟨x3.heap.size, 0, none⟩ = some (.int .i64 (q0 : Int)) := s0 0 _ rfl
     have d1 : y.cell? ⟨x3.heap.size, 1, none⟩ = some (.int .i64 (q1 : Int)) := s0 1 _ rfl
     have d2 : y.cell? ⟨x3.heap.size, 2, none⟩ = some (.int .i64 (q2 : Int)) := s0 2 _ rfl
     replace hO := hO.below hby
     replace HB := bel_step HB hby
     have hOx := hO.below ((Below.refl _ _).alloc (Nat.le_refl _) (.cells #[.int .i64 (q0 : Int), .int .i64 (q1 : Int), .int .i64 (q2 : Int)] 99))
     have hBx := HB.alloc HB.size (.cells #[.int .i64 (q0 : Int), .int .i64 (q1 : Int), .int .i64 (q2 : Int)] 99)
     have hr := rng_alloc (w := y) (cs := [.int .i64 (q0 : Int), .int .i64 (q1 : Int), .int .i64 (q2 : Int)]) (t := 99)
     have hxs := HB.size
     clear hO HB s0 zy hsy hby
     go_wp2_with (at_builtin; go_loud (refine Knd.app1 SpKo rfl (.tmp 48) (.tmp 50) rfl w.heap.size u10 (BL i) ⟨q0, q1, q2⟩ y.heap.size rfl hOx rfl hr (by omega) (by simp; omega) ?_); intro v' w' hO' hg' hat'; have hb' := hid (Knd.grown hBx hOx hg' (by simp; omega) (Nat.le_refl _)); have hO' := hid hO'; clear hg' hat' hOx hBx hr)
     go_roundw
     case rel => exact ⟨i + 1, by go_num, by omega, hTt, by rw [hs2.out]; exact hO'.out, hb'.out⟩
     case measure => simp [intOf]; omega
    ·obtain rfl := hn2.out (hB2.out hg)
     have hfin := hid (show ∀ W, Below x3.heap.size x3 W → RetSp w false LL (.returned (.tuple #[.slice none 0 0, .bool false])) W from fun W hb => ⟨bel_step HB hb, by simp⟩)
     clear hB1 hB2 hcs2 ha2 hn2 hs2 hO HB
     by_cases hg1 : I1 < 0
     ·go_upto_region 7 with fail
      refine enterR (P := fun u => Code.wp _ _ _ _ u) (c := [.int .i64 I0, .int .i64 I1, .int .i64 I2]) ?_
      intro y hby s0 zy hsy
      have d0 : y.cell? ⟨x3.heap.size, 0, none⟩ = some (.int .i64 I0) := s0 0 _ rfl
      have d1 : y.cell? ⟨x3.heap.size, 1, none⟩ = some (.int .i64 I1) := s0 1 _ rfl
      have d2 : y.cell? ⟨x3.heap.size, 2, none⟩ = some (.int .i64 I2) := s0 2 _ rfl
      have hfin2 := hid (hfin.out y hby)
      clear s0 zy hsy hby hfin
      go_wp2
      refine bodyPost_ret (v := .tuple #[.slice none 0 0, .bool false]) ?_ rfl ?_
      ·simp [results, Try.results43, go_sem]
      ·exact hfin2.out
     ·have hg2 : I2 ≤ I1 := by omega
      go_upto_region 7 with fail
      refine enterR (P := fun u => Code.wp _ _ _ _ u) (c := [.int .i64 I0, .int .i64 I1, .int .i64 I2]) ?_
      intro y hby s0 zy hsy
      have d0 : y.cell? ⟨x3.heap.size, 0, none⟩ = some (.int .i64 I0) := s0 0 _ rfl
      have d1 : y.cell? ⟨x3.heap.size, 1, none⟩ = some (.int .i64 I1) := s0 1 _ rfl
      have d2 : y.cell? ⟨x3.heap.size, 2, none⟩ = some (.int .i64 I2) := s0 2 _ rfl
      have hfin2 := hid (hfin.out y hby)
      clear s0 zy hsy hby hfin
      go_wp2
      refine bodyPost_ret (v := .tuple #[.slice none 0 0, .bool false]) ?_ rfl ?_
      ·simp [results, Try.results43, go_sem]
      ·exact hfin2.out
   ·have hs2 := hid (show BL (i + 1) = BL i from by have := hs1.out; rwa [if_neg hv, List.append_nil] at this)
    have ha2 := hid (show TL (i + 1) = true from by have := ha1.out; rw [if_neg hv, hT.out] at this; simpa using this)
    have hvb : (zv == v) = false := beq_eq_false_iff_ne.2 hv
    clear hs1 ha1 hm1 hn1
    go_wp2
    go_roundw
    case rel => exact ⟨i + 1, by go_num, by omega, ha2, by rw [hs2.out]; exact hO, HB⟩
    case measure => simp [intOf]; omega
  ·obtain rfl : n = i := by omega
   have hii : ¬ (n : Int) < (n : Int) := by omega
   have hlb := hlen.out n
   obtain ⟨hq1, hq2⟩ := hall.out
   obtain rfl : tt = true := hq1.symm.trans hT.out
   have hso := hid (SoS hO (by omega))
   have hOl := hid hO
   have HBh := hid HB
   have hLq := hid hq2
   clear hM hst hal hall hlen hno hmem hcs HI HF1 HF2 hO HB hq1 hq2 hT
   go_wp2_with fail
   refine hso.out.mono ?_
   rintro e w1 ⟨rfl, S, hP, hQ, hO1, hg⟩
   have hb1 := hid (Knd.grown HBh.out hOl.out hg HBh.out.size (Nat.le_refl _))
   have hfin := hid (show RetSp w true LL (.returned (.tuple #[u10, .bool true])) w1 from ⟨hb1.out, by
    rw [if_pos rfl]
    exact ⟨u10, S, rfl, hO1, by rw [← hLq.out]; exact hP, hQ.imp fun hx => by omega⟩⟩)
   clear hso hP hQ hg hO1 hOl HBh hb1 hLq
   go_wp2
   refine bodyPost_ret (v := .tuple #[u10, .bool true]) ?_ rfl ?_
   ·simp [results, Try.results43, go_sem]
   ·exact hfin.out
end Go.Proofs.Ytjfgklhifhaaoaa
