/- Geometry: the reference's before and hull. Conditions: at most 4096 points, coordinates in range. -/
import Derived.Test.YtglailcfgcdagaaZGh3
import Derived.Test.YtglailcfgcdagaaZGB
set_option linter.unusedVariables false
set_option linter.unusedSimpArgs false
namespace Go.Proofs.Ytglailcfgcdagaa
open Go.RowKit Big
theorem OwnP.one {w : World} {base : Nat} {x y : Int} (h : base ≤ w.heap.size) : OwnP (w.alloc (.cells #[.int .i64 x, .int .i64 y] 23)) base (.slice (some ⟨w.heap.size, 0, none⟩) 1 1) [(x, y)] :=
 ⟨rfl, .inr ⟨w.heap.size, 1, _, rfl, h, heap_alloc_new w _, by simp, by unfold maxLen; omega, rfl, rfl⟩⟩
theorem OwnP.last {w : World} {base : Nat} {v : Value} {r : List (Int × Int)} {b : Int × Int} (h : OwnP w base v (r ++ [b])) :
  ∃ g c, v = .slice (some ⟨g, 0, none⟩) (r.length + 1) c ∧ w.cell? ⟨g, r.length * 2, none⟩ = some (.int .i64 b.1) ∧ w.cell? ⟨g, r.length * 2 + 1, none⟩ = some (.int .i64 b.2) := by
 obtain ⟨A, c, hv, hb, hg⟩ := h.form
 obtain ⟨g, rfl, hgb⟩ := hg (by simp)
 have hl : (r ++ [b]).length = r.length + 1 := by simp
 rw [hl] at hv
 subst hv
 obtain ⟨b', o', e, hlt, hcs⟩ := hb.rd (by simp)
 cases e
 have k1 := hcs r.length (by simp)
 have e1 : (r ++ [b])[r.length]'(by simp) = b := by rw [List.getElem_append_right (by omega)]; simp
 rw [e1, Nat.zero_add] at k1
 exact ⟨g, c, rfl, k1.1, k1.2⟩
end Go.Proofs.Ytglailcfgcdagaa
/- Geometry: Hull in the package and in the reference, and the reference's Points. Conditions: none. -/
namespace Go.Proofs.Ytglailcfgcdagaa
open Go.RowKit Big
theorem hullE_0 {l : List (Int × Int)} (h : chkP l = 0) (h0 : l = []) : hullE l = ([], 5) := by unfold hullE; rw [if_pos h, h0]; rfl
theorem hullE_1 {l : List (Int × Int)} (h : chkP l = 0) (h0 : l ≠ []) : hullE l = (hullP l, 0) := by unfold hullE; rw [if_pos h, if_neg (fun e => h0 (List.eq_nil_of_length_eq_zero e))]
theorem hullE_2 {l : List (Int × Int)} (h : chkP l ≠ 0) : hullE l = ([], chkP l) := by unfold hullE; rw [if_neg h]
set_option maxRecDepth 100000 in
set_option maxHeartbeats 2000000 in
theorem GHull_g (l : List (Int × Int)) (A : Option Addr) (c : Nat) {w : World} (hl : Pb w A c l) :
  Calls Try.prog 20 #[.slice A l.length c] w (RetRE w (hullE l)) := by
 obtain ⟨n, hn⟩ : ∃ n, l.length = n := ⟨_, rfl⟩
 obtain ⟨k, hk⟩ : ∃ k, chkP l = k := ⟨_, rfl⟩
 have HK := hid (show Calls Try.prog 33 #[.slice A n c] w (RetI w k) from by rw [← hk, ← hn]; exact Gcheck_g l A c hl)
 have H2 := hid fun (h : k ≠ 0) => (show hullE l = ([], k) by rw [← hk] at h ⊢; exact hullE_2 h)
 have H0 := hid fun (h : k = 0) (h0 : n = 0) => (show hullE l = ([], 5) from hullE_0 (hk.trans h) (List.eq_nil_of_length_eq_zero (hn.trans h0)))
 have H1 := hid fun (h : k = 0) (h0 : n ≠ 0) => (show ∃ L, hullE l = (L, 0) ∧ ∀ W : World, Below w.heap.size w W → Calls Try.prog 47 #[.slice A n c] W (RetR W L) from by
  have h1 := chkP_zero (hk.trans h)
  have h2 : l ≠ [] := fun e => h0 (by rw [← hn, e]; rfl)
  exact ⟨_, hullE_1 (hk.trans h) h2, fun W hb => by rw [show hullP l = hullP l from rfl, ← hn]; exact Ghull_g l A c (hl.below hb) h1.1 h2 h1.2⟩)
 have hcp := Nat.le_trans hl.cap hl.max
 rw [hn] at hcp ⊢
 generalize hullE l = E at *
 clear hl hn hk
 go_enter Try.func20, Try.ntmps20
 go_wp2_with fail
 refine HK.out.mono ?_
 rintro e w1 ⟨rfl, hb⟩
 by_cases hk0 : k = 0
 ·by_cases hn0 : n = 0
  ·obtain rfl := H0.out hk0 hn0
   subst hk0 hn0
   clear H0 H1 H2 HK
   go_wp2
   refine bodyPost_ret (v := .tuple #[.slice none 0 0, .int .i64 5]) ?_ rfl ?_
   ·simp [results, Try.results20, go_sem]
   ·exact ⟨_, rfl, OwnP.nil _ _, hb⟩
  ·obtain ⟨L, rfl, HL⟩ := H1.out hk0 hn0
   have hnn : ¬ (n : Int) = 0 := by omega
   subst hk0
   replace HL := hid (HL w1 hb)
   clear H0 H1 H2 HK
   go_wp2_with fail
   refine HL.out.mono ?_
   rintro e w2 ⟨v2, rfl, hO, hb2⟩
   have hfin := hid (And.intro (OwnP.older hb.size hO) (hb.trans (hb2.mono hb.size)))
   clear hO hb2 HL
   go_wp2
   refine bodyPost_ret (v := .tuple #[v2, .int .i64 0]) ?_ rfl ?_
   ·simp [results, Try.results20, go_sem]
   ·exact ⟨_, rfl, hfin.out⟩
 ·obtain rfl := H2.out hk0
  clear H0 H1 H2 HK
  go_wp2
  refine bodyPost_ret (v := .tuple #[.slice none 0 0, .int .i64 k]) ?_ rfl ?_
  ·simp [results, Try.results20, go_sem]
  ·exact ⟨_, rfl, OwnP.nil _ _, hb⟩
set_option maxRecDepth 100000 in
set_option maxHeartbeats 2000000 in
theorem RPoints_g (l m : List (Int × Int)) (A B : Option Addr) (c d : Nat) {w : World} (hl : Pb w A c l) (hm : Pb w B d m) :
  Calls Try.prog 24 #[.slice A l.length c, .slice B m.length d] w (RetB w (decide (l = m))) := by
 obtain ⟨t, ht⟩ : ∃ t, decide (l = m) = t := ⟨_, rfl⟩
 rw [ht]
 obtain ⟨n, hn⟩ : ∃ n, l.length = n := ⟨_, rfl⟩
 obtain ⟨k, hk⟩ : ∃ k, m.length = k := ⟨_, rfl⟩
 have hM := hid fun (j : Nat) (hj : j < n) (W : World) (hb : Below w.heap.size w W) => (hl.below hb).at_ (k := j) (by omega)
 have hK := hid fun (j : Nat) (hj : j < k) (W : World) (hb : Below w.heap.size w W) => (hm.below hb).at_ (k := j) (by omega)
 have c1 := Nat.le_trans hl.cap hl.max
 have c2 := Nat.le_trans hm.cap hm.max
 rw [hn] at c1 ⊢
 rw [hk] at c2 ⊢
 have hF := hid fun (j : Nat) (h1 : j < l.length) (h2 : j < m.length) (h : ¬ l[j] = m[j]) => (show t = false by
  rw [← ht, decide_eq_false]; intro e; subst e; exact h rfl)
 have hE := hid fun (h : n ≠ k) => (show t = false by rw [← ht, decide_eq_false]; intro e; exact h (by rw [← hn, ← hk, e]))
 have hT := hid fun (h : ∀ j (h1 : j < l.length) (h2 : j < m.length), l[j] = m[j]) (hnk : n = k) => (show t = true by
  rw [← ht, decide_eq_true]; exact List.ext_getElem (by omega) h)
 replace hn := hid hn
 replace hk := hid hk
 clear hl hm ht
 go_enter Try.func24, Try.ntmps24
 by_cases hnk : n = k
 ·have hnki : (n : Int) = (k : Int) := by omega
  subst hnk
  clear hE
  go_wp2
  go_loopw [5] (fun s5 wr => ∃ i : Nat, s5 = .int .i64 i ∧ i ≤ n ∧ Hid (∀ j (h1 : j < l.length) (h2 : j < m.length), j < i → l[j] = m[j]) ∧ Below w.heap.size w wr) (fun s5 _ => n - (intOf s5).toNat)
  case atStart => exact ⟨0, rfl, by omega, fun j _ _ h => by omega, Below.refl _ _⟩
  case round =>
   obtain ⟨i, rfl, hi, hA, hB⟩ := hrel
   by_cases hin : i < n
   ·have hii : (i : Int) < (n : Int) := by omega
    have hil : i < l.length := by have := hn.out; omega
    have hik : i < m.length := by have := hk.out; omega
    obtain ⟨b, o, hA1, e0, e1⟩ := hM.out i hin wr hB
    obtain ⟨b', o', hA2, g0, g1⟩ := hK.out i hin wr hB
    have hFi := hid (hF.out i hil hik)
    have hAi := hid fun (h : l[i] = m[i]) (j : Nat) (h1 : j < l.length) (h2 : j < m.length) (hji : j < i + 1) => (show l[j] = m[j] by
     by_cases e : j = i
     ·subst e; exact h
     ·exact hA.out j h1 h2 (by omega))
    generalize l[i] = p at *
    generalize m[i] = q at *
    obtain ⟨p0, p1⟩ := p
    obtain ⟨q0, q1⟩ := q
    dsimp only at e0 e1 g0 g1
    subst hA1 hA2
    clear hM hK hF hT hA hn hk
    by_cases z0 : p0 = q0
    ·subst z0
     by_cases z1 : p1 = q1
     ·subst z1
      have hA3 := hid (hAi.out rfl)
      clear hAi hFi
      go_wp2_with fail
      go_quiet (fail)
      have hv : Below wr.heap.size wr (wr.drewN nq) := below_drewN (Below.refl _ _) _
      generalize hvq : wr.drewN nq = v3 at hv ⊢
      clear hvq
      have hBv := bel_step hB hv
      clear hv hB e0 e1 g0 g1
      go_wp2
      go_roundw
      case rel => exact ⟨i + 1, by go_num, by omega, hA3, hBv⟩
      case measure => simp [intOf]; omega
     ·obtain rfl := hFi.out (fun h => z1 (by injection h))
      clear hAi hFi
      go_wp2_with fail
      go_quiet (fail)
      have hv : Below wr.heap.size wr (wr.drewN nq) := below_drewN (Below.refl _ _) _
      generalize hvq : wr.drewN nq = v3 at hv ⊢
      clear hvq
      have hBv := bel_step hB hv
      clear hv hB e0 e1 g0 g1
      go_wp2
      go_ret
      exact ⟨rfl, hBv⟩
    ·obtain rfl := hFi.out (fun h => z0 (by injection h))
     clear hAi hFi
     go_wp2_with fail
     go_quiet (fail)
     have hv : Below wr.heap.size wr (wr.drewN nq) := below_drewN (Below.refl _ _) _
     generalize hvq : wr.drewN nq = v3 at hv ⊢
     clear hvq
     have hBv := bel_step hB hv
     clear hv hB e0 e1 g0 g1
     go_wp2
     go_ret
     exact ⟨rfl, hBv⟩
   ·obtain rfl : i = n := by omega
    obtain rfl := hT.out (fun j h1 h2 => hA.out j h1 h2 (by have := hn.out; omega)) (by first | rfl | trivial)
    have hii : ¬ (i : Int) < (i : Int) := by omega
    clear hM hK hF hT hA hn hk
    go_wp2
    go_ret
    exact ⟨rfl, hB⟩
 ·have hnki : ¬ (n : Int) = (k : Int) := by omega
  obtain rfl := hE.out hnk
  clear hM hK hF hE hT
  go_wp2
  go_ret
  exact ⟨rfl, Below.refl _ _⟩
end Go.Proofs.Ytglailcfgcdagaa
/- Geometry: Area2 in the package and in the reference. Conditions: none. -/
namespace Go.Proofs.Ytglailcfgcdagaa
open Go.RowKit Big
def arT (l : List (Int × Int)) (i : Nat) : Int := (l.getD i (0, 0)).1 * (l.getD ((i + 1) % l.length) (0, 0)).2 - (l.getD ((i + 1) % l.length) (0, 0)).1 * (l.getD i (0, 0)).2
def arP (l : List (Int × Int)) (j : Nat) : Int := ((List.range j).map (arT l)).sum
theorem arP_succ (l : List (Int × Int)) (j : Nat) : arP l (j + 1) = arP l j + arT l j := by
 unfold arP; rw [List.range_succ, List.map_append, List.sum_append]; simp
theorem ar_at {l : List (Int × Int)} {i k : Nat} (h : i < l.length) (hk : (i + 1) % l.length = k) (h2 : k < l.length) : arT l i = l[i].1 * l[k].2 - l[k].1 * l[i].2 := by
 unfold arT
 rw [hk]
 simp [h, h2]
/-- the numbers of one step -/
theorem ar_step {p q : Int × Int} {s : Int} {j : Nat} (hp : inP p = true) (hq : inP q = true) (hj : j < 4096) (hs : -(562949953421312 * (j : Int)) ≤ s ∧ s ≤ 562949953421312 * (j : Int)) :
  ∃ y1 y2 z s1 t : Int, p.1 * q.2 = y1 ∧ q.1 * p.2 = y2 ∧ y1 - y2 = z ∧ s + z = s1 ∧ s + y1 = t ∧ t - y2 = s1 ∧ s + (p.1 * q.2 - q.1 * p.2) = s1 ∧
   IntKind.i64.wrap y1 = y1 ∧ IntKind.i64.wrap y2 = y2 ∧ IntKind.i64.wrap z = z ∧ IntKind.i64.wrap s1 = s1 ∧ IntKind.i64.wrap t = t ∧
   (-(562949953421312 * ((j + 1 : Nat) : Int)) ≤ s1 ∧ s1 ≤ 562949953421312 * ((j + 1 : Nat) : Int)) := by
 have h1 := inP_iff.1 hp
 have h2 := inP_iff.1 hq
 have m1 := mul_box (k := 16777216) (l := 16777216) (show -16777216 ≤ p.1 ∧ p.1 ≤ 16777216 by omega) (show -16777216 ≤ q.2 ∧ q.2 ≤ 16777216 by omega)
 have m2 := mul_box (k := 16777216) (l := 16777216) (show -16777216 ≤ q.1 ∧ q.1 ≤ 16777216 by omega) (show -16777216 ≤ p.2 ∧ p.2 ≤ 16777216 by omega)
 refine ⟨_, _, _, _, _, rfl, rfl, rfl, rfl, rfl, ?_, rfl, ?_⟩
 ·omega
 ·generalize p.1 * q.2 = y1 at *
  generalize q.1 * p.2 = y2 at *
  simp only [IntKind.wrap_i64]
  omega
set_option maxRecDepth 100000 in
set_option maxHeartbeats 2000000 in
theorem GArea2_g (l : List (Int × Int)) (A : Option Addr) (c : Nat) {w : World} (hl : Pb w A c l) :
  Calls Try.prog 22 #[.slice A l.length c] w (RetII w (areaE l)) := by
 obtain ⟨n, hn⟩ : ∃ n, l.length = n := ⟨_, rfl⟩
 obtain ⟨k, hk⟩ : ∃ k, chkP l = k := ⟨_, rfl⟩
 have HK := hid (show Calls Try.prog 33 #[.slice A n c] w (RetI w k) from by rw [← hk, ← hn]; exact Gcheck_g l A c hl)
 have H2 := hid fun (h : k ≠ 0) => (show areaE l = (0, k) by rw [← hk] at h ⊢; unfold areaE; rw [if_neg h])
 have H0 := hid fun (h : k = 0) => (show areaE l = (arP l n, 0) by unfold areaE; rw [if_pos (hk.trans h), ← hn]; rfl)
 have H1 := hid fun (h : k = 0) => chkP_zero (hk.trans h)
 have hM := hid fun (j : Nat) (hj : j < n) (W : World) (hb : Below w.heap.size w W) => (hl.below hb).at_ (k := j) (by omega)
 have hS := hid fun (j : Nat) => arP_succ l j
 have hS0 := hid (show arP l 0 = 0 from rfl)
 have hT := hid fun (i k : Nat) (h : i < l.length) (hk : (i + 1) % l.length = k) (h2 : k < l.length) => ar_at h hk h2
 have hcp := Nat.le_trans hl.cap hl.max
 rw [hn] at hcp ⊢
 generalize areaE l = E at *
 generalize arP l = st at *
 replace hn := hid hn
 clear hl hk
 go_enter Try.func22, Try.ntmps22
 go_wp2_with fail
 refine HK.out.mono ?_
 rintro e w1 ⟨rfl, hb⟩
 by_cases hk0 : k = 0
 ·obtain rfl := H0.out hk0
  have hin := hid (H1.out hk0)
  have hn4 : n ≤ 4096 := by have := hin.out.1; rw [hn.out] at this; exact this
  subst hk0
  clear H0 H1 H2 HK
  go_wp2
  go_loopw [16, 5] (fun s16 s5 wr => ∃ (i : Nat) (s : Int), s16 = .int .i64 i ∧ s5 = .int .i64 s ∧ i ≤ n ∧ Hid (st i = s ∧ -(562949953421312 * (i : Int)) ≤ s ∧ s ≤ 562949953421312 * (i : Int)) ∧ Below w.heap.size w wr) (fun s16 _ _ => n - (intOf s16).toNat)
  case atStart => exact ⟨0, 0, rfl, rfl, by omega, ⟨hS0.out, by omega, by omega⟩, hb⟩
  case round =>
   obtain ⟨i, s, rfl, rfl, hi, hst, hB⟩ := hrel
   by_cases hin2 : i < n
   ·skip
    have hii : (i : Int) < (n : Int) := by omega
    have hil : i < l.length := by have := hn.out; omega
    obtain ⟨k, hk⟩ : ∃ k, (i + 1) % n = k := ⟨_, rfl⟩
    have hkn : k < n := by rw [← hk]; exact Nat.mod_lt _ (by omega)
    have hkl : k < l.length := by have := hn.out; omega
    have hkm : Int.tmod ((i : Int) + 1) (n : Int) = (k : Int) := by rw [← hk]; rw [Int.tmod_eq_emod_of_nonneg (by omega)]; push_cast; rfl
    have hkw : IntKind.i64.wrap (k : Int) = (k : Int) := by rw [IntKind.wrap_i64]; omega
    have hki : (k : Int) < (n : Int) := by omega
    have hnz : ¬ (n : Int) = 0 := by omega
    have hiw : IntKind.i64.wrap ((i : Int) + 1) = (i : Int) + 1 := by rw [IntKind.wrap_i64]; omega
    obtain ⟨b, o, hA1, e0, e1⟩ := hM.out i hin2 wr hB
    obtain ⟨b', o', hA2, g0, g1⟩ := hM.out k hkn wr hB
    subst hA1
    cases hA2
    have hTi := hT.out i k hil (by rw [hn.out]; exact hk) hkl
    have hpi := hin.out.2 _ (List.getElem_mem hil)
    have hqi := hin.out.2 _ (List.getElem_mem hkl)
    have hSi := hS.out i
    rw [hst.out.1, hTi] at hSi
    generalize l[i] = p at *
    generalize l[k] = q at *
    obtain ⟨y1, y2, z, s1, t, a1, a2, a3, a4, a5, a6, a7, w1', w2', w3, w4, w5, hbd⟩ := ar_step hpi hqi (show i < 4096 by omega) hst.out.2
    rw [a7] at hSi
    have hst2 := hid (And.intro hSi hbd)
    obtain ⟨p0, p1⟩ := p
    obtain ⟨q0, q1⟩ := q
    dsimp only at e0 e1 g0 g1 a1 a2
    clear hpi hqi hSi hTi a7 hbd hM hS hS0 hT hin hn hst hk
    clear a5 a6 w5
    go_upto_region 8 with fail
    refine enterR (P := fun u => Code.wp _ _ _ _ u) (c := [.int .i64 p0, .int .i64 p1]) ?_
    intro v2 hv r4 zn4 hsz
    have d0 : v2.cell? ⟨wr.heap.size, 0, none⟩ = some (.int .i64 p0) := r4 0 _ rfl
    have d1 : v2.cell? ⟨wr.heap.size, 1, none⟩ = some (.int .i64 p1) := r4 1 _ rfl
    have g0 := keep_cell hv g0
    have g1 := keep_cell hv g1
    replace hB := bel_step hB hv
    clear r4 zn4 hsz hv e0 e1
    go_upto_region 9 with fail
    refine enterR (P := fun u => Code.wp _ _ _ _ u) (c := [.int .i64 q0, .int .i64 q1]) ?_
    intro v3 hv r4 zn4 hsz
    have f0 : v3.cell? ⟨v2.heap.size, 0, none⟩ = some (.int .i64 q0) := r4 0 _ rfl
    have f1 : v3.cell? ⟨v2.heap.size, 1, none⟩ = some (.int .i64 q1) := r4 1 _ rfl
    have d0 := keep_cell hv d0
    have d1 := keep_cell hv d1
    replace hB := bel_step hB hv
    clear r4 zn4 hsz hv g0 g1
    go_wp2
    go_roundw
    case rel => exact ⟨i + 1, s1, by go_num, rfl, by omega, hst2.out, hB⟩
    case measure => simp [intOf]; omega
   ·skip
    obtain rfl : i = n := by omega
    have hii : ¬ (i : Int) < (i : Int) := by omega
    have hR := hid hst.out.1
    clear hst hM hS hS0 hT hin hn
    go_wp2
    refine bodyPost_ret (v := .tuple #[.int .i64 s, .int .i64 0]) ?_ rfl ?_
    ·simp [results, Try.results22, go_sem]
    ·exact ⟨by rw [hR.out], hB⟩
 ·obtain rfl := H2.out hk0
  clear H0 H1 H2 HK hM hS hS0 hT hn
  go_wp2
  refine bodyPost_ret (v := .tuple #[.int .i64 0, .int .i64 k]) ?_ rfl ?_
  ·simp [results, Try.results22, go_sem]
  ·exact ⟨rfl, hb⟩
end Go.Proofs.Ytglailcfgcdagaa
