/- Magnitudes: the walk of divide, two limbs and more. Conditions: none. -/
import Derived.Test.YtkfpcohdbbhmaaaDoorBi10
namespace Go.Proofs.YtkfpcohdbbhmaaaDoor
set_option linter.unusedVariables false
set_option linter.unusedSimpArgs false
open Go.RowKit Big

set_option maxRecDepth 100000 in
set_option maxHeartbeats 2000000 in
theorem divide_big (A B : Option Addr) (c d n m : Nat) (xs ys : List Nat) (w : World) (ha : Mg w A c xs) (hb : Mg w B d ys) (na : Nrm xs) (nb : Nrm ys) (hn : ys.length = n) (h2 : 2 ≤ n) (hm : xs.length + 1 = m + n) (hm0 : 0 < m) (h : val ys ≤ val xs) (hs : xs.length ≤ 1073741823) :
    Calls Tryd.prog 51 #[.slice A xs.length c, .slice B n d] w (RetQR w (val xs / val ys) (val xs % val ys)) := by
  subst hn
  have hcmp := compare_ge A B c d xs ys w ha hb na nb h
  have hne : ys ≠ [] := by intro h0; subst h0; simp at h2
  obtain ⟨t, hlast, ht0⟩ := nrm_last nb hne
  have htl : t = ys.getD (ys.length - 1) 0 := by
    rw [List.getLast?_eq_getElem?] at hlast
    rw [List.getD_eq_getElem?_getD, hlast]; rfl
  have htB : t < 4294967296 := hb.ok t (List.mem_of_getLast? hlast)
  obtain ⟨s1, s2, s3, s4⟩ := norm_shift ht0 htB
  have hlz := fun w1 => lz_any t w1 htB
  have hsh : 32 - Lib.bitLen t ≤ 31 := by omega
  generalize hse : 32 - Lib.bitLen t = s at *
  obtain ⟨vs, hv1, hv2, hv3⟩ := shl_last ys 0 t hlast s3
  have hvv : val vs = val ys * 2 ^ s := by
    have := val_shl (2 ^ s) ys 0
    rw [hv1, val_snoc_zero] at this
    simpa using this
  obtain ⟨pw0, pw1, pw2⟩ := pow_cases hsh
  have hov : Ok vs := by
    have := ok_shl (2 ^ s) ys 0 (2 ^ (32 - s)) pw2 hb.ok pw0
    rw [hv1] at this; exact this.left
  have hou : Ok (shl (2 ^ s) xs 0) := ok_shl (2 ^ s) xs 0 (2 ^ (32 - s)) pw2 ha.ok pw0
  have hul : (shl (2 ^ s) xs 0).length = m + ys.length := by rw [length_shl]; exact hm
  have huv : val (shl (2 ^ s) xs 0) = val xs * 2 ^ s := by rw [val_shl]; rfl
  have hypos : 0 < val ys := val_pos nb hne
  have hstart : val ((shl (2 ^ s) xs 0).drop m) < val vs := by
    have e1 := val_append ((shl (2 ^ s) xs 0).take m) ((shl (2 ^ s) xs 0).drop m)
    rw [List.take_append_drop, huv, List.length_take, show min m (shl (2 ^ s) xs 0).length = m by omega] at e1
    have e2 := val_lt_pow ha.ok
    have e3 := val_ge_pow nb hne
    have e4 : 4294967296 ^ xs.length = 4294967296 ^ m * 4294967296 ^ (ys.length - 1) := by rw [← Nat.pow_add]; congr 1; omega
    rw [hvv]
    refine Nat.lt_of_mul_lt_mul_left (a := 4294967296 ^ m) ?_
    have e5 : val xs * 2 ^ s < 4294967296 ^ m * 4294967296 ^ (ys.length - 1) * 2 ^ s := by
      rw [← e4]; exact Nat.mul_lt_mul_of_pos_right e2 pw0
    have e6 : 4294967296 ^ m * 4294967296 ^ (ys.length - 1) * 2 ^ s ≤ 4294967296 ^ m * (val ys * 2 ^ s) := by
      rw [Nat.mul_assoc]
      exact Nat.mul_le_mul_left _ (Nat.mul_le_mul_right _ e3)
    omega
  have hlong := LongAt.start hou hul hstart
  have hshl := fun (w1 : World) (h1 : Below w.heap.size w w1) => shiftLeft_len B d s ys w1 (hb.below h1) hsh (by omega)
  have hshu := fun (w1 : World) (h1 : Below w.heap.size w w1) => shiftLeft_len A c s xs w1 (ha.below h1) hsh (by omega)
  rw [hv1] at hshl
  generalize hus : shl (2 ^ s) xs 0 = us at *
  have hmk := make32 m (by omega)
  rw [show (m : Int) = (xs.length : Int) - (ys.length : Int) + 1 by omega] at hmk
  have c1 : ∃ b o, B = some ⟨b, o, none⟩ ∧ b < w.heap.size ∧ w.cell? ⟨b, o + (ys.length - 1), none⟩ = some (.int .u32 t) := by
    obtain ⟨b, o, e, hbs, hc⟩ := hb.rd.at_ (k := ys.length - 1) (by omega)
    refine ⟨b, o, e, hbs, ?_⟩
    rw [hc (ys.length - 1) (by omega)]
    unfold lim
    rw [htl, gd (by omega : ys.length - 1 < ys.length)]
  obtain ⟨bb, ob, rfl, hbs, c1⟩ := c1
  have HC := hid hcmp
  have HLZ := hid hlz
  have HSL := hid hshl
  have HSU := hid hshu
  have HLO := hid hlong
  have HV := hid (And.intro hvv (And.intro hv2 (And.intro hov (And.intro hou (And.intro huv (And.intro hul hypos))))))
  have HT := hid (And.intro (And.intro s2 hv3) pw0)
  have HN := hid (And.intro na nb)
  have HM := hid hm
  have hmb : m ≤ 1073741824 := by omega
  have hyl : ys.length ≤ 1073741824 := by omega
  have hyx : ys.length ≤ xs.length := by omega
  clear hcmp hlz hshl hshu hlong hvv hv1 hv2 hv3 hov hou huv hul hypos hstart hus hse s1 s2 s3 s4 htl hlast ht0 hne pw0 pw1 pw2 na nb h hm
  go_enter Tryd.func51, Tryd.ntmps51
  go_wp2_with fail
  refine (HC.out).mono ?_
  rintro e w1 ⟨ov, rfl, o0, o1, hb1⟩
  obtain ⟨hc1, hf1⟩ := bcell hb1
  go_wp2_with fail
  refine (HLZ.out _).mono ?_
  rintro e w2 ⟨rfl, rfl⟩
  go_wp2_with fail
  refine (HSL.out _ hb1).mono ?_
  rintro e w2 ⟨gv, hgv, rfl, hLv, hb2⟩
  go_wp2_with fail
  refine (HSU.out _ (hb1.trans (hb2.mono hb1.size))).mono ?_
  rintro e w3 ⟨gu, hgu, rfl, hLu, hb3⟩
  go_wp2_with fail
  have z1 := hb1.size
  have z2 := hb2.size
  have z3 := hb3.size
  have l1 := hLu.lt
  have l2 := hLv.lt
  have hbl3 : Below w.heap.size w w3 := hb1.trans ((hb2.mono z1).trans (hb3.mono (by omega)))
  have hLv3 : LB w3 gv (vs ++ [0]) := hLv.below hb3 hLv.lt
  have hvn : gv ≠ gu := by omega
  clear hc1 hf1 c1 HC HLZ HSL HSU hb1 hb2 hb3 hLv
  go_loopw [11] (fun i wr => ∃ (k : Nat) (U qs : List Nat), k ≤ m ∧ i = .int .i64 ((k : Int) - 1) ∧ Below w.heap.size w wr ∧ LB wr gu U ∧ LB wr gv (vs ++ [0]) ∧ LB wr w3.heap.size qs ∧ LongAt us (val vs) ys.length m k U qs) (fun i _ => (intOf i + 1).toNat)
  case atStart => exact ⟨m, us, _, Nat.le_refl _, rfl, hbl3.alloc (by omega) _, hLu.alloc _, hLv3.alloc _, LB.made w3 m, HLO.out⟩
  case round =>
    obtain ⟨k, U, qs, hk, rfl, hbl, hLU, hLV, hLQ, hat⟩ := hrel
    obtain ⟨hvv, hv2, hov, hou, huv, hul, hypos⟩ := HV.out
    have hwz := hbl.size
    by_cases hk0 : 0 < k
    · obtain ⟨low, tt, Q, w1, w2, w3', w4, w5, w6⟩ := hat.window hou hk0 (by omega) hk (by omega)
      have hVpos : 0 < val vs := by rw [hvv]; exact Nat.mul_pos hypos HT.out.2
      have htk : (us.take (k - 1)).length = k - 1 := by simp; omega
      have hqs : qs.length = m := by obtain ⟨_, qq, _, _, _, _, q1, q2, _⟩ := hat.ex; rw [q1]; simp [q2]; omega
      rw [w1] at hLU
      have hstep := fun cu cv => step_any gu (k - 1) gv ys.length cu cv tt (us.take (k - 1)) low Q vs [0] wr hLU hLV hvn htk w2 hv2 h2 w3' hov w4 (Nat.le_trans HT.out.1.1 HT.out.1.2) w5 hyl (by omega)
      obtain ⟨vq, cq⟩ : ∃ vq : Nat, wr.cell? ⟨w3.heap.size, k - 1, none⟩ = some (.int .u32 (vq : Int)) := ⟨_, hLQ.cell (k - 1) (by omega)⟩
      have fq := hLQ.free (k - 1)
      have hql := hLQ.lt
      have hqu := fun rem' r1 r2 r3 => w6 rem' r1 r2 r3 hVpos
      have hbk : k + ys.length ≤ xs.length + 1 := by have := HM.out; omega
      have HS := hid hstep
      have HQ := hid hqu
      clear hstep hqu w1 w2 w3' w4 w5 w6 hvv hv2 hov hou huv hul hypos hqs htk hVpos
      generalize val (low ++ [tt]) / val vs = qd at *
      go_wp2_with fail
      rw [show k - 1 + ys.length + 1 - (k - 1) = ys.length + 1 by omega]
      refine (HS.out _ _).mono ?_
      rintro e w4 ⟨rem, rfl, hLU2, hgr, r1, r2, r3⟩
      have hLQ2 := hLQ.grown hgr (by omega)
      have hLV2 := hLV.grown hgr hvn
      have cq2 : w4.cell? ⟨w3.heap.size, k - 1, none⟩ = some (.int .u32 (vq : Int)) := (World.cell?_of_block (hgr.block w3.heap.size hql (by simp; omega))).trans cq
      have fq2 := hLQ2.free (k - 1)
      have hl4 := HQ.out rem r2 r3 r1
      have hgr4 : Below w.heap.size w w4 := hbl.grown hgr hwz (fun j hj => by cases hj; omega)
      clear HS HQ hLU hLV hLQ hat hgr cq fq
      go_wp2
      go_roundw
      case rel => exact ⟨k - 1, _, _, by omega, by go_num, (by repeat (first | exact hgr4 | refine Below.drew ?_ | refine below_drewN ?_ _ | refine Below.setCell ?_ (by simp; omega) _ | refine Below.alloc ?_ (by simp; omega) _)), (by repeat (first | exact hLU2 | refine LB.drew ?_ | refine LB.far ?_ (by omega) _ _)), (by repeat (first | exact hLV2 | refine LB.drew ?_ | refine LB.far ?_ (by omega) _ _)), hLQ2.set_ _ _ _ rfl, hl4⟩
      case measure => simp [intOf]; omega
    · obtain rfl : k = 0 := by omega
      have hat2 := hat
      rw [hvv] at hat2
      obtain ⟨f1, f2, f3, f4, f5⟩ := LongAt_end hat2 huv HT.out.2 hypos
      have hUl : U.length = xs.length + 1 := by
        obtain ⟨rem, qq, q1, q2, _⟩ := hat.ex
        have := HM.out
        rw [q1]; simp [q2]; omega
      have hmq := hLQ.mg f3 (by omega)
      have hmu := hLU.mg f4 (by omega)
      have htr := trim_any _ _ _ _ hmq
      have hsr := fun (w5 : World) (h5 : Below wr.heap.size wr w5) => shiftRight_any _ _ s U w5 (hmu.below h5) hsh (by omega)
      rw [f5, f1] at htr
      rw [hUl, f2] at hsr
      have HTR := hid htr
      have HSR := hid hsr
      clear f1 f2 f3 f4 f5 hUl hmq hmu htr hsr hvv hv2 hov hou huv hul hypos hat hat2 hLU hLV hLQ
      go_wp2_with fail
      refine (HTR.out).mono ?_
      rintro e w4 ⟨R, cc, rfl, hr1, hr2⟩
      go_wp2_with fail
      refine (HSR.out _ hr2).mono ?_
      rintro e w5 ⟨R5, cc5, rfl, hr3, hr4⟩
      go_wp2
      go_ret2
      exact ⟨R, cc, R5, cc5, rfl, hr1.below hr4, hr3, hbl.trans ((hr2.mono hwz).trans (hr4.mono (Nat.le_trans hwz hr2.size)))⟩

theorem divide_any (A B : Option Addr) (c d : Nat) (xs ys : List Nat) (w : World) (ha : Mg w A c xs) (hb : Mg w B d ys) (na : Nrm xs) (nb : Nrm ys) (hy : ys ≠ []) (hs : xs.length ≤ 1073741823) :
    Calls Tryd.prog 51 #[.slice A xs.length c, .slice B ys.length d] w (RetQR w (val xs / val ys) (val xs % val ys)) := by
  by_cases h : val xs < val ys
  · exact divide_lt A B c d xs ys w ha hb na nb h (by omega)
  · have hxy : ys.length ≤ xs.length := by
      rcases Nat.lt_or_ge xs.length ys.length with h1 | h1
      · exact absurd (val_len_lt ha.ok nb h1) h
      · exact h1
    by_cases h1 : ys.length = 1
    · obtain ⟨t, rfl⟩ : ∃ t, ys = [t] := by
        match ys, h1 with
        | [t], _ => exact ⟨t, rfl⟩
      obtain ⟨b, o, rfl, _⟩ := hb.rd.at_ (k := 0) (by simp)
      have ht : t ≠ 0 := by intro h0; subst h0; simp [Nrm] at nb
      have hv : val [t] = t := by simp [val]
      rw [hv] at h ⊢
      exact divide_one A b o c d t xs w ha hb na ht (by omega) (by omega)
    · have h2 : 2 ≤ ys.length := by
        have : ys.length ≠ 0 := by intro h0; exact hy (List.eq_nil_of_length_eq_zero h0)
        omega
      exact divide_big A B c d ys.length (xs.length + 1 - ys.length) xs ys w ha hb na nb rfl h2 (by omega) (by omega) (by omega) hs

end Go.Proofs.YtkfpcohdbbhmaaaDoor
