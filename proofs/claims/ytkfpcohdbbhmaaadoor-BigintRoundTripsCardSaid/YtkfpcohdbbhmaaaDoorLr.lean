/- The law BigintRoundTrips: its walk. Conditions: none. -/
import Derived.Test.YtkfpcohdbbhmaaaDoorRtP
import Derived.Test.YtkfpcohdbbhmaaaDoorLe
import Derived.Test.YtkfpcohdbbhmaaaDoorEx
namespace Go.Proofs.YtkfpcohdbbhmaaaDoor
set_option linter.unusedVariables false
set_option linter.unusedSimpArgs false
open Go.RowKit Big

theorem Iz.uniq {z : Int} {b b' : Bool} {n n' : Nat} {xs xs' : List Nat} (h : Iz z b n xs) (h' : Iz z b' n' xs') : b = b' ∧ n = n' ∧ xs = xs' := by
  obtain ⟨rfl, rfl, rfl⟩ := h
  obtain ⟨rfl, rfl, rfl⟩ := h'
  exact ⟨rfl, rfl, rfl⟩

theorem Format_all {x : Int} {b : Bool} {k : Nat} {xs : List Nat} {A : Option Addr} {c : Nat} {w : World} (hx : Iz x b k xs) (ha : Mg w A c xs) (fx : fits x) (htab : PowTab w) :
    Calls Tryd.prog 25 #[.agg #[.bool b, .slice A k c]] w (RetS w (fmtZ x)) := by
  by_cases h : x = 0
  · subst h
    obtain ⟨rfl, rfl, rfl⟩ := hx
    have e : fmtZ 0 = [48] := by decide +kernel
    rw [e]
    exact Format_zero A c w ha
  · exact Format_g hx ha fx h htab _ rfl

theorem Digits_neg {x : Int} {b : Bool} {k : Nat} {xs : List Nat} {A : Option Addr} {c : Nat} {w : World} (hx : Iz x b k xs) (ha : Mg w A c xs) (fx : fits x) (i : Int) (h : x < 0) :
    Calls Tryd.prog 35 #[.agg #[.bool b, .slice A k c], .int .i64 i] w (RetIL w [] 1) := by
  obtain ⟨rfl, rfl, rfl⟩ := hx
  exact Digits_bad2 x i A c w ha fx (.inl h)

theorem FromDigits_g {z err : Int} {b2 : Bool} {n2 : Nat} {zs : List Nat} {A : Option Addr} {c : Nat} {w : World} (hz : Iz z b2 n2 zs) (l : List Nat) (k : Nat) (hk : k = l.length) (b : Nat) (i : Int) (hi : i = b) (h2 : 2 ≤ b) (hb : b ≤ 65536) (hr : Rd dg w A l) (h : fdE b (ints l) = (z, err)) :
    Calls Tryd.prog 37 #[.slice A k c, .int .i64 i] w (GZE w b2 n2 zs err) := by
  subst hk
  subst hi
  obtain ⟨rfl, rfl, rfl⟩ := hz
  have hr2 : Rd di w A (ints l) := fun h0 => by
    obtain ⟨b, o, e, hB, hc⟩ := hr (by simpa [ints] using h0)
    refine ⟨b, o, e, hB, fun j hj => ?_⟩
    have hj2 : j < l.length := by simpa [ints] using hj
    rw [hc j hj2]
    simp [dg, di, ints]
  have hd := FromDigits_ok (ints l) b A c w hr2 h2 hb
  rw [h] at hd
  have e : (ints l).length = l.length := by simp [ints]
  rw [e] at hd
  exact hd

set_option maxHeartbeats 4000000 in
set_option maxRecDepth 100000 in
theorem trips_ok {x : Int} {bx : Bool} {nx : Nat} {X : List Nat} {A : Option Addr} {ca : Nat} {w : World} (HE : Hid (ExOk w)) (htab : PowTab w) (Ix : Iz x bx nx X) (ma : Mg w A ca X) (fx : fits x) (M : Nat) (hM : M ≤ 65535) :
    Calls Tryd.prog 12 #[.agg #[.bool bx, .slice A nx ca], .int .u16 M] w (RetB w true) := by
  obtain ⟨P, hP, hP2⟩ : ∃ P : Nat, (M : Int) % 65535 = P ∧ P ≤ 65534 := ⟨M % 65535, by omega, by omega⟩
  obtain ⟨s, hs⟩ : ∃ s : ByteArray, s = ⟨(fmtZ x).toArray⟩ := ⟨_, rfl⟩
  have hsl : s.data.toList = fmtZ x := by rw [hs]
  have hsz : s.size = (fmtZ x).length := by rw [hs]; simp [ByteArray.size]
  have hs1 : 1 ≤ s.size := by
    rw [hsz]
    have := fmtZ_ne x
    exact List.length_pos_iff.2 this
  have hse : s.toList.isEmpty = false := by
    rw [Lib.toList_data, hsl]
    have := fmtZ_ne x
    cases h : fmtZ x
    · exact absurd h this
    · rfl
  obtain ⟨z1, e1, hv1⟩ : ∃ v e, parE s.data.toList = (v, e) := ⟨_, _, rfl⟩
  have hlong : s.size ≤ 4096 → z1 = x ∧ e1 = 0 := fun h => by
    rw [hsl, parE_fmtZ x (by rw [← hsz]; exact h), Prod.mk.injEq] at hv1
    exact ⟨hv1.1.symm, hv1.2.symm⟩
  obtain ⟨b1, n1, L1, I1⟩ := iz z1
  obtain ⟨k2, e2, hv2⟩ : ∃ v e, toI x = (v, e) := ⟨_, _, rfl⟩
  have h2 : e2 = 0 → k2 = x ∧ -9223372036854775808 ≤ x ∧ x ≤ 9223372036854775807 := fun h => by
    unfold toI at hv2
    split at hv2
    · rename_i hb
      rw [Prod.mk.injEq] at hv2
      exact ⟨hv2.1.symm, hb⟩
    · rw [Prod.mk.injEq] at hv2
      omega
  have HVa := hid fun (w1 : World) (m : Mg w1 A ca X) => Valid_g (w := w1) Ix m fx
  have HFm := hid fun (w1 : World) (m : Mg w1 A ca X) (b : Below w.heap.size w w1) => by
    have h := Format_all (w := w1) Ix m fx (htab.below b)
    unfold RetS at h
    rw [← hs] at h
    exact h
  have HPa := hid fun (w1 : World) => Parse_g (w := w1) s I1.out hv1
  have HTo := hid fun (w1 : World) (m : Mg w1 A ca X) => ToInt_g (w := w1) Ix m fx k2 hv2
  have HSx := hid fun (w1 : World) (R Q : Option Addr) (c d : Nat) (m : Mg w1 R c X) (m' : Mg w1 Q d X) => Same_g (w := w1) Ix Ix m m' true (by simp)
  have HL := hid hlong
  have H2 := hid h2
  have HX := hid (And.intro hs (And.intro hsl (And.intro hsz hv2)))
  clear hs hsl hsz hv1 hv2 hlong h2
  have HB : Below w.heap.size w w := Below.refl _ _
  go_enter Tryd.func12, Tryd.ntmps12
  go_wp2_with fail
  have f0 := at_alloc0 (W := w) (a := .bool bx) (b := .slice A nx ca) (t := 24) rfl
  have f1 := at_alloc1 (W := w) (a := .bool bx) (b := .slice A nx ca) (t := 24) rfl
  have hv_ : Below w.heap.size w (w.alloc (.cells #[.bool bx, .slice A nx ca] 24)) := (Below.refl _ _).alloc (Nat.le_refl _) _
  generalize w.alloc (.cells #[.bool bx, .slice A nx ca] 24) = u0 at *
  replace ma := ma.below hv_
  replace HB := HB.trans (hv_.mono HB.size)
  clear hv_
  refine (HVa.out _ ma).mono ?_
  rintro e w1 ⟨rfl, h1⟩
  have hv_ : Below u0.heap.size u0 w1 := Below.trans (b := _) (by repeat (first | assumption | exact Below.refl _ _ | refine Below.alloc ?_ (by simp; try omega) _ | refine Below.drew ?_ | refine below_drewN ?_ _)) (h1.mono (by simp; try omega))
  replace ma := ma.below hv_
  replace f0 := keep_cell hv_ f0
  replace f1 := keep_cell hv_ f1
  have lt_f0 := cell_lt f0
  have lt_f1 := cell_lt f1
  replace HB := HB.trans (hv_.mono HB.size)
  clear hv_
  go_wp2_with fail
  refine (HFm.out _ ma HB).mono ?_
  rintro e w2 ⟨rfl, h2⟩
  have hv_ : Below w1.heap.size w1 w2 := Below.trans (b := _) (by repeat (first | assumption | exact Below.refl _ _ | refine Below.alloc ?_ (by simp; try omega) _ | refine Below.drew ?_ | refine below_drewN ?_ _)) (h2.mono (by simp; try omega))
  replace ma := ma.below hv_
  replace f0 := keep_cell hv_ f0
  replace f1 := keep_cell hv_ f1
  have lt_f0 := cell_lt f0
  have lt_f1 := cell_lt f1
  replace HB := HB.trans (hv_.mono HB.size)
  clear hv_
  go_wp2_with fail
  refine (HPa.out _).mono ?_
  rintro e w3 ⟨R1, c1, rfl, m1, h3⟩
  have hv_ : Below w2.heap.size w2 w3 := Below.trans (b := _) (by repeat (first | assumption | exact Below.refl _ _ | refine Below.alloc ?_ (by simp; try omega) _ | refine Below.drew ?_ | refine below_drewN ?_ _)) (h3.mono (by simp; try omega))
  replace ma := ma.below hv_
  replace f0 := keep_cell hv_ f0
  replace f1 := keep_cell hv_ f1
  have lt_f0 := cell_lt f0
  have lt_f1 := cell_lt f1
  replace HB := HB.trans (hv_.mono HB.size)
  clear hv_
  have lt_f0 := cell_lt f0
  go_upto_region 5 with fail
  have g0 := at_alloc0 (W := w3) (a := .bool b1) (b := .slice R1 n1 c1) (t := 24) rfl
  have g1 := at_alloc1 (W := w3) (a := .bool b1) (b := .slice R1 n1 c1) (t := 24) rfl
  have hv_ : Below w3.heap.size w3 (w3.alloc (.cells #[.bool b1, .slice R1 n1 c1] 24)) := (Below.refl _ _).alloc (Nat.le_refl _) _
  generalize w3.alloc (.cells #[.bool b1, .slice R1 n1 c1] 24) = u3 at *
  replace ma := ma.below hv_
  replace m1 := m1.below hv_
  replace f0 := keep_cell hv_ f0
  replace f1 := keep_cell hv_ f1
  replace HB := HB.trans (hv_.mono HB.size)
  clear hv_
  go_cut [47] (fun s wx => s = .bool false ∧ Below u3.heap.size u3 wx)
  case first =>
    by_cases hl : s.size ≤ 4096
    · have hz := HL.out hl
      have I1' : Iz x b1 n1 L1 := by have := I1.out; rwa [hz.1] at this
      obtain ⟨q1, q2, q3⟩ := Iz.uniq Ix I1'
      have q4 := hz.2
      subst q1
      subst q2
      subst q3
      subst q4
      have hl1 : ((s.size : Int) ≤ 4096) := by omega
      clear I1' hz
      go_wp2_with fail
      refine (HSx.out _ _ _ _ _ ma m1).mono ?_
      rintro e w4 ⟨rfl, h4⟩
      go_wp2_with fail
      go_meet
      exact ⟨rfl, h4⟩
    · have hl1 : ¬ ((s.size : Int) ≤ 4096) := by omega
      go_wp2_with fail
      go_meet
      exact ⟨rfl, Below.refl _ _⟩
  case rest =>
    obtain ⟨rfl, hx⟩ := hcut
    have ma := ma.below hx
    have f0 := keep_cell hx f0
    have f1 := keep_cell hx f1
    have HB := HB.trans (hx.mono HB.size)
    clear hx HL HPa HFm hse hs1 I1
    go_wp2_with fail
    refine (HTo.out _ ma).mono ?_
    rintro e w5 ⟨rfl, h5⟩
    have hv_ : Below wc.heap.size wc w5 := Below.trans (b := _) (by repeat (first | assumption | exact Below.refl _ _ | refine Below.alloc ?_ (by simp; try omega) _ | refine Below.drew ?_ | refine below_drewN ?_ _)) (h5.mono (by simp; try omega))
    replace ma := ma.below hv_
    replace f0 := keep_cell hv_ f0
    replace f1 := keep_cell hv_ f1
    have lt_f0 := cell_lt f0
    have lt_f1 := cell_lt f1
    replace HB := HB.trans (hv_.mono HB.size)
    clear hv_
    go_upto_region 8 with fail
    go_cut [61] (fun s wx => s = .bool false ∧ Below w5.heap.size w5 wx)
    case first =>
      by_cases he : e2 = 0
      · obtain ⟨hk, hb1, hb2⟩ := H2.out he
        subst hk
        subst he
        have HFI := hid fun (w1 : World) => FromInt_g (w := w1) Ix hb1 hb2
        clear hb1 hb2 H2 HX
        go_region_held3 (fun w' => (w'.cell? ⟨w.heap.size, 0, none⟩ = some (.bool bx) ∧ w'.cell? ⟨w.heap.size, 1, none⟩ = some (.slice A nx ca))) (first | ((try dsimp only); repeat' (first | with_reducible assumption | apply And.intro | (with_reducible refine keep_cell (W := w5) ?_ ?_) | exact (Below.refl _ _).drew | fail))) (first | (go_at_call 30; (with_reducible refine (HFI.out _).mono ?_); rintro e y1 ⟨Rf, cf, rfl, mf, hq_⟩; have qy1 : Below w5.heap.size w5 y1 := bel_step (by repeat' (first | with_reducible assumption | exact Below.refl _ _ | (refine Below.alloc ?_ (by first | omega | (simp only [World.size_alloc, World.size_setCell, World.size_drew]; done) | (simp only [World.size_alloc, World.size_setCell, World.size_drew]; omega)) _) | (refine Below.drew ?_) | (refine below_drewN ?_ _) | (refine Below.setCell ?_ (by first | omega | (simp only [World.size_alloc, World.size_setCell, World.size_drew]; done) | (simp only [World.size_alloc, World.size_setCell, World.size_drew]; omega)) _))) hq_) | (go_at_call 19; (with_reducible refine (HSx.out _ _ _ _ _ mf (ma.below (by repeat' (first | with_reducible assumption | exact Below.refl _ _ | (refine Below.alloc ?_ (by first | omega | (simp only [World.size_alloc, World.size_setCell, World.size_drew]; done) | (simp only [World.size_alloc, World.size_setCell, World.size_drew]; omega)) _) | (refine Below.drew ?_) | (refine below_drewN ?_ _) | (refine Below.setCell ?_ (by first | omega | (simp only [World.size_alloc, World.size_setCell, World.size_drew]; done) | (simp only [World.size_alloc, World.size_setCell, World.size_drew]; omega)) _))))).mono ?_); rintro e y2 ⟨rfl, hq_⟩; have qy2 : Below w5.heap.size w5 y2 := bel_step (by repeat' (first | with_reducible assumption | exact Below.refl _ _ | (refine Below.alloc ?_ (by first | omega | (simp only [World.size_alloc, World.size_setCell, World.size_drew]; done) | (simp only [World.size_alloc, World.size_setCell, World.size_drew]; omega)) _) | (refine Below.drew ?_) | (refine below_drewN ?_ _) | (refine Below.setCell ?_ (by first | omega | (simp only [World.size_alloc, World.size_setCell, World.size_drew]; done) | (simp only [World.size_alloc, World.size_setCell, World.size_drew]; omega)) _))) hq_))
        all_goals
          go_wp2_with fail
          go_meet
          exact ⟨rfl, qy2⟩
      · have hb : (e2 == 0) = false := by rw [beq_eq_false_iff_ne]; exact he
        go_quiet (fail)
        go_wp2_with fail
        go_meet
        exact ⟨rfl, (by repeat' (first | with_reducible assumption | exact Below.refl _ _ | (refine Below.alloc ?_ (by first | omega | (simp only [World.size_alloc, World.size_setCell, World.size_drew]; done) | (simp only [World.size_alloc, World.size_setCell, World.size_drew]; omega)) _) | (refine Below.drew ?_) | (refine below_drewN ?_ _) | (refine Below.setCell ?_ (by first | omega | (simp only [World.size_alloc, World.size_setCell, World.size_drew]; done) | (simp only [World.size_alloc, World.size_setCell, World.size_drew]; omega)) _)))⟩
    case rest =>
      obtain ⟨rfl, hx⟩ := hcut
      have ma := ma.below hx
      have f0 := keep_cell hx f0
      have f1 := keep_cell hx f1
      have HB := HB.trans (hx.mono HB.size)
      clear hx H2 HTo HX
      by_cases hneg : x < 0
      · have hbx : bx = true := by rw [Ix.hb]; simpa using hneg
        have HD := hid fun (w1 : World) (m : Mg w1 A ca X) => Digits_neg (w := w1) Ix m fx ((P : Int) + 2) hneg
        subst hbx
        go_wp2_with fail
        refine (HD.out _ ma).mono ?_
        rintro e w6 ⟨Rl, cl, rfl, rl, h6⟩
        have hv_ : Below wc.heap.size wc w6 := Below.trans (b := _) (by repeat (first | assumption | exact Below.refl _ _ | refine Below.alloc ?_ (by simp; try omega) _ | refine Below.drew ?_ | refine below_drewN ?_ _)) (h6.mono (by simp; try omega))
        replace f0 := keep_cell hv_ f0
        replace f1 := keep_cell hv_ f1
        have lt_f0 := cell_lt f0
        have lt_f1 := cell_lt f1
        replace HB := HB.trans (hv_.mono HB.size)
        clear hv_
        go_wp2_with fail
        refine (HE.out _ HB).mono ?_
        rintro e w7 ⟨rfl, h7⟩
        go_wp2_with fail
        go_ret
        exact ⟨rfl, bel_step HB h7⟩
      · have hbx : bx = false := by rw [Ix.hb]; simpa using hneg
        obtain ⟨n, rfl⟩ := Int.eq_ofNat_of_zero_le (show 0 ≤ x by omega)
        obtain ⟨l, e3, hv3⟩ : ∃ l e, dgE (P + 2) n = (l, e) := ⟨_, _, rfl⟩
        have HD := hid fun (w1 : World) (m : Mg w1 A ca X) => Digits_g (w := w1) Ix m fx (P + 2) (by omega) (by omega) ((P : Int) + 2) (by omega) l e3 hv3
        subst hbx
        rcases dgE_err (P + 2) n with h3 | h3
        · rw [hv3] at h3
          replace h3 : e3 = 0 := h3
          subst h3
          obtain ⟨hfd, d, r, hl, hd, hd2⟩ := dg_back n (P + 2) (by omega) fx hv3
          have HFD := hid fun (w1 : World) (R : Option Addr) (c : Nat) (m : Rd dg w1 R l) => FromDigits_g (w := w1) (A := R) (c := c) Ix l l.length rfl (P + 2) ((P : Int) + 2) (by omega) (by omega) (by omega) m hfd
          have hl0 : 0 < l.length := by rw [hl]; simp
          have hl1 : (0 : Int) < (l.length : Int) := by omega
          have HLL := hid hl
          have hh : l[0] = d := by simp [hl]
          have HH := hid hh
          clear hl hh hv3 hfd hneg
          go_wp2_with fail
          refine (HD.out _ ma).mono ?_
          rintro e w6 ⟨Rl, cl, rfl, rl, h6⟩
          have hv_ : Below wc.heap.size wc w6 := Below.trans (b := _) (by repeat (first | assumption | exact Below.refl _ _ | refine Below.alloc ?_ (by simp; try omega) _ | refine Below.drew ?_ | refine below_drewN ?_ _)) (h6.mono (by simp; try omega))
          replace ma := ma.below hv_
          replace f0 := keep_cell hv_ f0
          replace f1 := keep_cell hv_ f1
          have lt_f0 := cell_lt f0
          have lt_f1 := cell_lt f1
          replace HB := HB.trans (hv_.mono HB.size)
          clear hv_
          go_wp2_with fail
          refine (HFD.out _ _ _ rl).mono ?_
          rintro e w7 ⟨Rz, cz, rfl, mz, h7⟩
          have rl := rl.below h7
          have hv_ : Below w6.heap.size w6 w7 := Below.trans (b := _) (by repeat (first | assumption | exact Below.refl _ _ | refine Below.alloc ?_ (by simp; try omega) _ | refine Below.drew ?_ | refine below_drewN ?_ _)) (h7.mono (by simp; try omega))
          replace ma := ma.below hv_
          replace f0 := keep_cell hv_ f0
          replace f1 := keep_cell hv_ f1
          have lt_f0 := cell_lt f0
          have lt_f1 := cell_lt f1
          replace HB := HB.trans (hv_.mono HB.size)
          clear hv_
          have lt_f0 := cell_lt f0
          obtain ⟨bl, ol, rfl, hbl, hcl⟩ := rl.at_ hl0
          have c0 : w7.cell? ⟨bl, ol, none⟩ = some (.int .i64 d) := by have := hcl 0 hl0; rw [HH.out] at this; exact this
          clear hcl
          go_wp2_with fail
          refine (HSx.out _ _ _ _ _ (mz.below (by repeat' (first | with_reducible assumption | exact Below.refl _ _ | (refine Below.alloc ?_ (by first | omega | (simp only [World.size_alloc, World.size_setCell, World.size_drew]; done) | (simp only [World.size_alloc, World.size_setCell, World.size_drew]; omega)) _) | (refine Below.drew ?_) | (refine below_drewN ?_ _) | (refine Below.setCell ?_ (by first | omega | (simp only [World.size_alloc, World.size_setCell, World.size_drew]; done) | (simp only [World.size_alloc, World.size_setCell, World.size_drew]; omega)) _)))) (ma.below (by repeat' (first | with_reducible assumption | exact Below.refl _ _ | (refine Below.alloc ?_ (by first | omega | (simp only [World.size_alloc, World.size_setCell, World.size_drew]; done) | (simp only [World.size_alloc, World.size_setCell, World.size_drew]; omega)) _) | (refine Below.drew ?_) | (refine below_drewN ?_ _) | (refine Below.setCell ?_ (by first | omega | (simp only [World.size_alloc, World.size_setCell, World.size_drew]; done) | (simp only [World.size_alloc, World.size_setCell, World.size_drew]; omega)) _))))).mono ?_
          rintro e w8 ⟨rfl, h8⟩
          have h8' : Below w7.heap.size w7 w8 := bel_step (by repeat' (first | with_reducible assumption | exact Below.refl _ _ | (refine Below.alloc ?_ (by first | omega | (simp only [World.size_alloc, World.size_setCell, World.size_drew]; done) | (simp only [World.size_alloc, World.size_setCell, World.size_drew]; omega)) _) | (refine Below.drew ?_) | (refine below_drewN ?_ _) | (refine Below.setCell ?_ (by first | omega | (simp only [World.size_alloc, World.size_setCell, World.size_drew]; done) | (simp only [World.size_alloc, World.size_setCell, World.size_drew]; omega)) _))) h8
          have c0 := keep_cell h8' c0
          have HB := HB.trans (h8'.mono HB.size)
          rcases hd with hd | hr
          · have g1 : ((d : Int) != 0) = true := by rw [bne_iff_ne]; omega
            go_wp2_with fail
            refine (HE.out _ HB).mono ?_
            rintro e w9 ⟨rfl, h9⟩
            go_wp2_with fail
            go_ret
            exact ⟨rfl, bel_step HB h9⟩
          · have hl2 : l.length = 1 := by rw [HLL.out, hr]; rfl
            by_cases hd0 : d = 0
            · subst hd0
              go_wp2_with fail
              refine (HE.out _ HB).mono ?_
              rintro e w9 ⟨rfl, h9⟩
              go_wp2_with fail
              go_ret
              exact ⟨rfl, bel_step HB h9⟩
            · have g1 : ((d : Int) != 0) = true := by rw [bne_iff_ne]; omega
              go_wp2_with fail
              refine (HE.out _ HB).mono ?_
              rintro e w9 ⟨rfl, h9⟩
              go_wp2_with fail
              go_ret
              exact ⟨rfl, bel_step HB h9⟩
        · rw [hv3] at h3
          replace h3 : e3 = 4 := h3
          subst h3
          clear hv3
          go_wp2_with fail
          refine (HD.out _ ma).mono ?_
          rintro e w6 ⟨Rl, cl, rfl, rl, h6⟩
          have hv_ : Below wc.heap.size wc w6 := Below.trans (b := _) (by repeat (first | assumption | exact Below.refl _ _ | refine Below.alloc ?_ (by simp; try omega) _ | refine Below.drew ?_ | refine below_drewN ?_ _)) (h6.mono (by simp; try omega))
          replace f0 := keep_cell hv_ f0
          replace f1 := keep_cell hv_ f1
          have lt_f0 := cell_lt f0
          have lt_f1 := cell_lt f1
          replace HB := HB.trans (hv_.mono HB.size)
          clear hv_
          go_wp2_with fail
          refine (HE.out _ HB).mono ?_
          rintro e w7 ⟨rfl, h7⟩
          go_wp2_with fail
          go_ret
          exact ⟨rfl, bel_step HB h7⟩

set_option maxHeartbeats 1000000 in
theorem trips_bad {na : Bool} {xs : List Nat} {A : Option Addr} {ca : Nat} {w : World} (HE : Hid (ExOk w)) (ma : Mg w A ca xs) (h : validB na xs = false) (M : Nat) :
    Calls Tryd.prog 12 #[.agg #[.bool na, .slice A xs.length ca], .int .u16 M] w (RetB w true) := by
  have HV := hid fun (w1 : World) (b : Below w.heap.size w w1) => Valid_f (ma.below b) h
  have HF := hid fun (w1 : World) (b : Below w.heap.size w w1) => Format_bad na xs A ca w1 (ma.below b) h
  have HB : Below w.heap.size w w := Below.refl _ _
  clear ma h
  generalize xs.length = la at *
  go_enter Tryd.func12, Tryd.ntmps12
  go_wp2_with fail
  have f0 := at_alloc0 (W := w) (a := .bool na) (b := .slice A la ca) (t := 24) rfl
  have f1 := at_alloc1 (W := w) (a := .bool na) (b := .slice A la ca) (t := 24) rfl
  have hv_ : Below w.heap.size w (w.alloc (.cells #[.bool na, .slice A la ca] 24)) := (Below.refl _ _).alloc (Nat.le_refl _) _
  generalize w.alloc (.cells #[.bool na, .slice A la ca] 24) = u0 at *
  replace HB := HB.trans (hv_.mono HB.size)
  clear hv_
  refine (HV.out _ HB).mono ?_
  rintro e w1 ⟨rfl, h1⟩
  have hv_ : Below u0.heap.size u0 w1 := Below.trans (b := _) (by repeat (first | assumption | exact Below.refl _ _ | refine Below.alloc ?_ (by simp; try omega) _ | refine Below.drew ?_ | refine below_drewN ?_ _)) (h1.mono (by simp; try omega))
  replace f0 := keep_cell hv_ f0
  replace f1 := keep_cell hv_ f1
  have lt_f0 := cell_lt f0
  have lt_f1 := cell_lt f1
  replace HB := HB.trans (hv_.mono HB.size)
  clear hv_
  go_wp2_with fail
  refine (HF.out _ HB).mono ?_
  rintro e w2 ⟨rfl, h2⟩
  have hv_ : Below w1.heap.size w1 w2 := Below.trans (b := _) (by repeat (first | assumption | exact Below.refl _ _ | refine Below.alloc ?_ (by simp; try omega) _ | refine Below.drew ?_ | refine below_drewN ?_ _)) (h2.mono (by simp; try omega))
  replace HB := HB.trans (hv_.mono HB.size)
  clear hv_
  go_wp2_with fail
  refine (HE.out _ HB).mono ?_
  rintro e w3 ⟨rfl, h3⟩
  go_wp2_with fail
  go_ret
  exact ⟨rfl, bel_step HB h3⟩

theorem trips_any {na : Bool} {xs : List Nat} {A : Option Addr} {ca : Nat} {w : World} (ma : Mg w A ca xs) (m : Int) (hm : (Lit.int .u16 m).wf = true) (htab : PowTab w) :
    Calls Tryd.prog 12 #[.agg #[.bool na, .slice A xs.length ca], .int .u16 m] w (RetB w true) := by
  have HE : Hid (ExOk w) := fun w1 b => examples_ok w1 (htab.below b)
  simp [Lit.wf, IntKind.min, IntKind.max, IntKind.signed, IntKind.bits] at hm
  obtain ⟨M, rfl⟩ := Int.eq_ofNat_of_zero_le hm.1
  cases h1 : validB na xs
  · exact trips_bad HE ma h1 M
  · obtain ⟨x, rfl, rfl, fx⟩ := valid_z ma.ok h1
    exact trips_ok HE htab ⟨rfl, rfl, rfl⟩ ma fx M (by omega)
end Go.Proofs.YtkfpcohdbbhmaaaDoor
