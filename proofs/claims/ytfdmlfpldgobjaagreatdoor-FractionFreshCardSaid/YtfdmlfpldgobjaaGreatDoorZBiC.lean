/- Magnitudes: the walk of divide. Conditions: none. -/
import Derived.Test.YtfdmlfpldgobjaaGreatDoorZBi8
import Derived.Test.YtfdmlfpldgobjaaGreatDoorZNtA
import Derived.Test.YtfdmlfpldgobjaaGreatDoorZBaA
import Derived.Test.YtfdmlfpldgobjaaGreatDoorSh0
import Derived.Test.YtfdmlfpldgobjaaGreatDoorZBiB
set_option linter.unusedVariables false
set_option linter.unusedSimpArgs false
namespace Go.Proofs.YtfdmlfpldgobjaaGreatDoor
open Go.RowKit Big
theorem mod_small {q v r : Nat} (h : r < v) : (q * v + r) % v = r := by rw [Nat.add_comm, Nat.add_mul_mod_self_right, Nat.mod_eq_of_lt h]
theorem LongAt_end {us U qs xs ys : List Nat} {n m p : Nat} (h : LongAt us (val ys * p) n m 0 U qs) (hu : val us = val xs * p) (hp : 0 < p) (hy : 0 < val ys) : val qs = val xs / val ys ∧ val U / p = val xs % val ys ∧ Ok qs ∧ Ok U ∧ qs.length = m := by
 obtain ⟨rem, qq, h1, h2, h3, h4, h5, h6, h7, h8⟩ := h.ex
 have e1 : qs = qq := by simpa using h5
 have e2 : U = rem ++ List.replicate m 0 := by simpa using h1
 have e3 : val U = val rem := by rw [e2, val_append, val_rep]; simp
 rw [List.drop_zero, hu, ← Nat.mul_assoc] at h8
 have hr : val rem = val xs % val ys * p := by
  have h9 : val rem = (val xs * p) % (val ys * p) := by
   rw [h8, Nat.mul_assoc, mod_small h4]
  rw [h9, Nat.mul_mod_mul_right]
 have hq : val qq = val xs / val ys := by
  have : (val xs * p) / (val ys * p) = val qq := by
   rw [h8, Nat.mul_assoc, Nat.add_comm, Nat.add_mul_div_right _ _ (Nat.mul_pos hy hp), Nat.div_eq_of_lt h4, Nat.zero_add]
  rw [← this, Nat.mul_div_mul_right _ _ hp]
 refine ⟨by rw [e1, hq], by rw [e3, hr, Nat.mul_div_cancel _ hp], by rw [e1]; exact h7, by rw [e2]; exact h3.app (Ok.rep _), by rw [e1, h6]; rfl⟩
end Go.Proofs.YtfdmlfpldgobjaaGreatDoor
/- Magnitudes: the walk of divide. Conditions: none. -/
namespace Go.Proofs.YtfdmlfpldgobjaaGreatDoor
open Go.RowKit Big
def RetQR (w : World) (q r : Nat) (e : Ending) (w' : World) : Prop :=
 ∃ A c B d, e = .returned (.tuple #[.slice A (limbs q).length c, .slice B (limbs r).length d]) ∧ Mg w' A c (limbs q) ∧ Mg w' B d (limbs r) ∧ Below w.heap.size w w'
/-- the same, the quotient in new memory -/
def RetQRn (w : World) (q r : Nat) (e : Ending) (w' : World) : Prop :=
 ∃ A c B d, e = .returned (.tuple #[.slice A (limbs q).length c, .slice B (limbs r).length d]) ∧ Mg w' A c (limbs q) ∧ Mg w' B d (limbs r) ∧ Below w.heap.size w w' ∧ Hid (Nw w.heap.size w' A)
theorem RetQRn.any {w w' : World} {q r : Nat} {e : Ending} (h : RetQRn w q r e w') : RetQR w q r e w' := by
 obtain ⟨A, c, B, d, h1, h2, h3, h4, _⟩ := h; exact ⟨A, c, B, d, h1, h2, h3, h4⟩
theorem compare_lt (A B : Option Addr) (c d : Nat) (xs ys : List Nat) (w : World) (ha : Mg w A c xs) (hb : Mg w B d ys) (na : Nrm xs) (nb : Nrm ys) (h : val xs < val ys) :
  Calls Tryz.prog 69 #[.slice A xs.length c, .slice B ys.length d] w fun e w' => e = .returned (.int .i64 (-1)) ∧ Below w.heap.size w w' :=
 (compare_any A B c d xs ys w ha hb na nb).mono fun e w' ⟨h1, h2⟩ => ⟨by rw [h1, ord_lt h], h2⟩
theorem compare_ge (A B : Option Addr) (c d : Nat) (xs ys : List Nat) (w : World) (ha : Mg w A c xs) (hb : Mg w B d ys) (na : Nrm xs) (nb : Nrm ys) (h : val ys ≤ val xs) :
  Calls Tryz.prog 69 #[.slice A xs.length c, .slice B ys.length d] w fun e w' => ∃ o : Int, e = .returned (.int .i64 o) ∧ 0 ≤ o ∧ o ≤ 1 ∧ Below w.heap.size w w' :=
 (compare_any A B c d xs ys w ha hb na nb).mono fun e w' ⟨h1, h2⟩ => ⟨_, h1, by unfold ord; split <;> (try split) <;> omega, by unfold ord; split <;> (try split) <;> omega, h2⟩
theorem lz_any (t : Nat) (w : World) (ht : t < 4294967296) : Calls Tryz.prog 86 #[.int .u32 t] w fun e w' => e = .returned (.int .i64 ((32 - Lib.bitLen t : Nat) : Int)) ∧ w = w' :=
 (Tryz.bits_LeadingZeros32 t w (by omega) (by omega)).mono fun e w' ⟨h1, h2⟩ => ⟨by
  rw [h1, Int.toNat_natCast]
  have := Lib.bitLen_le t 32 (by omega) (by omega)
  exact ret_int (by omega), h2.symm⟩
theorem shiftLeft_len (A : Option Addr) (c n : Nat) (xs : List Nat) (w : World) (ha : Mg w A c xs) (hn : n ≤ 31) (hs : xs.length ≤ 1073741824) :
  Calls Tryz.prog 98 #[.slice A xs.length c, .int .i64 n] w fun e w' => ∃ g, w.heap.size ≤ g ∧ e = .returned (.slice (some ⟨g, 0, none⟩) (xs.length + 1) (xs.length + 1)) ∧ LB w' g (shl (2 ^ n) xs 0) ∧ Below w.heap.size w w' :=
 (shiftLeft_any A c n xs w ha hn hs).mono fun e w' ⟨g, h1, h2, h3, h4⟩ => ⟨g, h1, by rw [h2, length_shl], h3, h4⟩
theorem own_mg {w : World} {base : Nat} {v : Value} {xs : List Nat} (h : w.ownsRow base 61 1 v xs.length (xs.map lim)) (ho : Ok xs) : ∃ A c, v = .slice A xs.length c ∧ Mg w A c xs := by
 obtain ⟨A, c, rfl, h1, h2, h3⟩ := own_rd h
 exact ⟨A, c, rfl, h1, h2, ho, h3⟩
set_option maxHeartbeats 1000000 in
theorem divide_lt (A B : Option Addr) (c d : Nat) (xs ys : List Nat) (w : World) (ha : Mg w A c xs) (hb : Mg w B d ys) (na : Nrm xs) (nb : Nrm ys) (h : val xs < val ys) (hs : xs.length ≤ 1073741824) :
  Calls Tryz.prog 65 #[.slice A xs.length c, .slice B ys.length d] w (RetQRn w (val xs / val ys) (val xs % val ys)) := by
 have h0 : val xs / val ys = 0 := Nat.div_eq_of_lt h
 have h1 : val xs % val ys = val xs := Nat.mod_eq_of_lt h
 rw [h0, h1]
 have H := hid h
 clear h h0 h1
 go_enter Tryz.func65, Tryz.ntmps65
 go_wp2_with (first | (go_at_call 69; refine (compare_lt _ _ _ _ _ _ _ ha hb na nb H.out).mono ?_; rintro e w1 ⟨rfl, hb1⟩) | (at_builtin; refine wpList_app rfl (.const (.slice none 0 0)) (.tmp 16) 22 rfl 61 (.int .u32 0) 4 Tryz.underlying22 info32 rfl w.heap.size lim (fun _ => rfl) _ [] rfl (World.ownsRow_nil _ _ _ _) A c xs rfl (ha.rd.below hb1) (by simp; omega) (by simp; omega) hb1.size ?_; intro v' w2 hown hgr hwh))
 obtain ⟨R, cc, rfl, hm⟩ := own_mg hown ha.ok
 go_wp2
 go_ret2
 have hl : limbs (val xs) = xs := limbs_val ha.ok na
 refine ⟨none, 0, R, cc, by rw [hl, limbs_zero]; rfl, ⟨by simp [limbs_zero], by omega, ok_limbs _, by rw [limbs_zero]; exact Rd.nil _ _⟩, by rw [hl]; exact hm, ?_⟩
 exact ⟨hb1.trans (below_app (World.ownsRow_nil w1 w.heap.size 61 1) hgr hb1.size), Nw.nil⟩
set_option maxHeartbeats 1000000 in
theorem divide_one (A : Option Addr) (b o c d t : Nat) (xs : List Nat) (w : World) (ha : Mg w A c xs) (hb : Mg w (some ⟨b, o, none⟩) d [t]) (na : Nrm xs) (ht : t ≠ 0) (h : t ≤ val xs) (hs : xs.length ≤ 1073741824) :
  Calls Tryz.prog 65 #[.slice A xs.length c, .slice (some ⟨b, o, none⟩) 1 d] w (RetQRn w (val xs / t) (val xs % t)) := by
 have nb : Nrm [t] := by simp [Nrm, ht]
 have hcmp := compare_ge A (some ⟨b, o, none⟩) c d xs [t] w ha hb na nb (by simpa [val] using h)
 have ot := hb.ok.head
 have ho : ∃ b' o', (some ⟨b, o, none⟩ : Option Addr) = some ⟨b', o', none⟩ ∧ b' < w.heap.size ∧ ∀ j (h : j < [t].length), w.cell? ⟨b', o' + j, none⟩ = some (lim [t][j]) := hb.rd (by simp)
 obtain ⟨b', o', he, hbs, hc⟩ := ho
 injection he with he
 injection he with e1 e2
 subst e1; subst e2
 have c1 := hc 0 (by simp)
 unfold lim at c1
 simp only [List.getElem_cons_zero, Nat.add_zero] at c1
 have HC := hid hcmp
 have H0 := hid (Nat.pos_of_ne_zero ht)
 have hm := Nat.mod_lt (val xs) (Nat.pos_of_ne_zero ht)
 have hd := fun (w1 : World) (hb1 : Below w.heap.size w w1) => divideSmall_nw A c xs t w1 (ha.below hb1) H0.out ot hs
 have hrb : val xs % t ≤ 4294967295 := by omega
 generalize val xs % t = rm at *
 have HD := hid hd
 clear hc hcmp h ht hb nb hd hm
 go_enter Tryz.func65, Tryz.ntmps65
 go_wp2_with (first | (go_at_call 69; refine (HC.out).mono ?_; rintro e w1 ⟨ov, rfl, o0, o1, hb1⟩; obtain ⟨hc1, hf1⟩ := bcell hb1) | (go_at_call 77; refine (HD.out _ hb1).mono ?_; rintro e w2 ⟨⟨cc, rfl, hr1, hr2⟩, hr5⟩))
 go_wp2_with (go_at_call 64; refine (fromWord_any rm _ (by omega)).mono ?_; rintro e w3 ⟨R3, cc3, rfl, hr3, hr4⟩)
 go_ret2
 exact ⟨_, cc, R3, cc3, rfl, hr1.below hr4, hr3, hb1.trans ((hr2.mono hb1.size).trans (hr4.mono (Nat.le_trans hb1.size hr2.size))), (hr5.out.below hr4).mono hb1.size⟩
end Go.Proofs.YtfdmlfpldgobjaaGreatDoor
/- Magnitudes: the walk of divide, two limbs and more. Conditions: none. -/
namespace Go.Proofs.YtfdmlfpldgobjaaGreatDoor
open Go.RowKit Big
set_option maxRecDepth 100000 in
set_option maxHeartbeats 2000000 in
theorem divide_big (A B : Option Addr) (c d n m : Nat) (xs ys : List Nat) (w : World) (ha : Mg w A c xs) (hb : Mg w B d ys) (na : Nrm xs) (nb : Nrm ys) (hn : ys.length = n) (h2 : 2 ≤ n) (hm : xs.length + 1 = m + n) (hm0 : 0 < m) (h : val ys ≤ val xs) (hs : xs.length ≤ 1073741823) :
  Calls Tryz.prog 65 #[.slice A xs.length c, .slice B n d] w (RetQRn w (val xs / val ys) (val xs % val ys)) := by
 subst hn
 have hcmp := compare_ge A B c d xs ys w ha hb na nb h
 have hne : ys ≠ [] := by intro h0; subst h0; simp at h2
 obtain ⟨t, hlast, ht0⟩ := nrm_last nb hne
 have htl : t = ys.getD (ys.length - 1) 0 := by
  rw [List.getLast?_eq_getElem?] at hlast
  rw [List.getD_eq_getElem?_getD, hlast]; rfl
 have htB : t < 4294967296 := hb.ok t (List.mem_of_getLast? hlast)
 obtain ⟨s1, s2, s3, s4⟩ := norm_shift ht0 htB
 have hlz := fun w1 => lz_any t w1 htB
 have hsh : 32 - Lib.bitLen t ≤ 31 := by omega
 generalize hse : 32 - Lib.bitLen t = s at *
 obtain ⟨vs, hv1, hv2, hv3⟩ := shl_last ys 0 t hlast s3
 have hvv : val vs = val ys * 2 ^ s := by
  have := val_shl (2 ^ s) ys 0
  rw [hv1, val_snoc_zero] at this
  simpa using this
 obtain ⟨pw0, pw1, pw2⟩ := pow_cases hsh
 have hov : Ok vs := by
  have := ok_shl (2 ^ s) ys 0 (2 ^ (32 - s)) pw2 hb.ok pw0
  rw [hv1] at this; exact this.left
 have hou : Ok (shl (2 ^ s) xs 0) := ok_shl (2 ^ s) xs 0 (2 ^ (32 - s)) pw2 ha.ok pw0
 have hul : (shl (2 ^ s) xs 0).length = m + ys.length := by rw [length_shl]; exact hm
 have huv : val (shl (2 ^ s) xs 0) = val xs * 2 ^ s := by rw [val_shl]; rfl
 have hypos : 0 < val ys := val_pos nb hne
 have hstart : val ((shl (2 ^ s) xs 0).drop m) < val vs := by
  have e1 := val_append ((shl (2 ^ s) xs 0).take m) ((shl (2 ^ s) xs 0).drop m)
  rw [List.take_append_drop, huv, List.length_take, show min m (shl (2 ^ s) xs 0).length = m by omega] at e1
  have e2 := val_lt_pow ha.ok
  have e3 := val_ge_pow nb hne
  have e4 : 4294967296 ^ xs.length = 4294967296 ^ m * 4294967296 ^ (ys.length - 1) := by rw [← Nat.pow_add]; congr 1; omega
  rw [hvv]
  refine Nat.lt_of_mul_lt_mul_left (a := 4294967296 ^ m) ?_
  have e5 : val xs * 2 ^ s < 4294967296 ^ m * 4294967296 ^ (ys.length - 1) * 2 ^ s := by
   rw [← e4]; exact Nat.mul_lt_mul_of_pos_right e2 pw0
  have e6 : 4294967296 ^ m * 4294967296 ^ (ys.length - 1) * 2 ^ s ≤ 4294967296 ^ m * (val ys * 2 ^ s) := by
   rw [Nat.mul_assoc]
   exact Nat.mul_le_mul_left _ (Nat.mul_le_mul_right _ e3)
  omega
 have hlong := LongAt.start hou hul hstart
 have hshl := fun (w1 : World) (h1 : Below w.heap.size w w1) => shiftLeft_len B d s ys w1 (hb.below h1) hsh (by omega)
 have hshu := fun (w1 : World) (h1 : Below w.heap.size w w1) => shiftLeft_len A c s xs w1 (ha.below h1) hsh (by omega)
 rw [hv1] at hshl
 generalize hus : shl (2 ^ s) xs 0 = us at *
 have hmk := make32 m (by omega)
 rw [show (m : Int) = (xs.length : Int) - (ys.length : Int) + 1 by omega] at hmk
 have c1 : ∃ b o, B = some ⟨b, o, none⟩ ∧ b < w.heap.size ∧ w.cell? ⟨b, o + (ys.length - 1), none⟩ = some (.int .u32 t) := by
  obtain ⟨b, o, e, hbs, hc⟩ := hb.rd.at_ (k := ys.length - 1) (by omega)
  refine ⟨b, o, e, hbs, ?_⟩
  rw [hc (ys.length - 1) (by omega)]
  unfold lim
  rw [htl, gd (by omega : ys.length - 1 < ys.length)]
 obtain ⟨bb, ob, rfl, hbs, c1⟩ := c1
 have HC := hid hcmp
 have HLZ := hid hlz
 have HSL := hid hshl
 have HSU := hid hshu
 have HLO := hid hlong
 have HV := hid (And.intro hvv (And.intro hv2 (And.intro hov (And.intro hou (And.intro huv (And.intro hul hypos))))))
 have HT := hid (And.intro (And.intro s2 hv3) pw0)
 have HN := hid (And.intro na nb)
 have HM := hid hm
 have hmb : m ≤ 1073741824 := by omega
 have hyl : ys.length ≤ 1073741824 := by omega
 have hyx : ys.length ≤ xs.length := by omega
 clear hcmp hlz hshl hshu hlong hvv hv1 hv2 hv3 hov hou huv hul hypos hstart hus hse s1 s2 s3 s4 htl hlast ht0 hne pw0 pw1 pw2 na nb h hm
 go_enter Tryz.func65, Tryz.ntmps65
 go_wp2_with fail
 refine (HC.out).mono ?_
 rintro e w1 ⟨ov, rfl, o0, o1, hb1⟩
 obtain ⟨hc1, hf1⟩ := bcell hb1
 go_wp2_with fail
 refine (HLZ.out _).mono ?_
 rintro e w2 ⟨rfl, rfl⟩
 go_wp2_with fail
 refine (HSL.out _ hb1).mono ?_
 rintro e w2 ⟨gv, hgv, rfl, hLv, hb2⟩
 go_wp2_with fail
 refine (HSU.out _ (hb1.trans (hb2.mono hb1.size))).mono ?_
 rintro e w3 ⟨gu, hgu, rfl, hLu, hb3⟩
 go_wp2_with fail
 have z1 := hb1.size
 have z2 := hb2.size
 have z3 := hb3.size
 have l1 := hLu.lt
 have l2 := hLv.lt
 have hbl3 : Below w.heap.size w w3 := hb1.trans ((hb2.mono z1).trans (hb3.mono (by omega)))
 have hLv3 : LB w3 gv (vs ++ [0]) := hLv.below hb3 hLv.lt
 have hvn : gv ≠ gu := by omega
 clear hc1 hf1 c1 HC HLZ HSL HSU hb1 hb2 hb3 hLv
 go_loopw [11] (fun i wr => ∃ (k : Nat) (U qs : List Nat), k ≤ m ∧ i = .int .i64 ((k : Int) - 1) ∧ Below w.heap.size w wr ∧ LB wr gu U ∧ LB wr gv (vs ++ [0]) ∧ LB wr w3.heap.size qs ∧ LongAt us (val vs) ys.length m k U qs) (fun i _ => (intOf i + 1).toNat)
 case atStart => exact ⟨m, us, _, Nat.le_refl _, rfl, hbl3.alloc (by omega) _, hLu.alloc _, hLv3.alloc _, LB.made w3 m, HLO.out⟩
 case round =>
  obtain ⟨k, U, qs, hk, rfl, hbl, hLU, hLV, hLQ, hat⟩ := hrel
  obtain ⟨hvv, hv2, hov, hou, huv, hul, hypos⟩ := HV.out
  have hwz := hbl.size
  by_cases hk0 : 0 < k
  ·obtain ⟨low, tt, Q, w1, w2, w3', w4, w5, w6⟩ := hat.window hou hk0 (by omega) hk (by omega)
   have hVpos : 0 < val vs := by rw [hvv]; exact Nat.mul_pos hypos HT.out.2
   have htk : (us.take (k - 1)).length = k - 1 := by simp; omega
   have hqs : qs.length = m := by obtain ⟨_, qq, _, _, _, _, q1, q2, _⟩ := hat.ex; rw [q1]; simp [q2]; omega
   rw [w1] at hLU
   have hstep := fun cu cv => step_any gu (k - 1) gv ys.length cu cv tt (us.take (k - 1)) low Q vs [0] wr hLU hLV hvn htk w2 hv2 h2 w3' hov w4 (Nat.le_trans HT.out.1.1 HT.out.1.2) w5 hyl (by omega)
   obtain ⟨vq, cq⟩ : ∃ vq : Nat, wr.cell? ⟨w3.heap.size, k - 1, none⟩ = some (.int .u32 (vq : Int)) := ⟨_, hLQ.cell (k - 1) (by omega)⟩
   have fq := hLQ.free (k - 1)
   have hql := hLQ.lt
   have hqu := fun rem' r1 r2 r3 => w6 rem' r1 r2 r3 hVpos
   have hbk : k + ys.length ≤ xs.length + 1 := by have := HM.out; omega
   have HS := hid hstep
   have HQ := hid hqu
   clear hstep hqu w1 w2 w3' w4 w5 w6 hvv hv2 hov hou huv hul hypos hqs htk hVpos
   generalize val (low ++ [tt]) / val vs = qd at *
   go_wp2_with fail
   rw [show k - 1 + ys.length + 1 - (k - 1) = ys.length + 1 by omega]
   refine (HS.out _ _).mono ?_
   rintro e w4 ⟨rem, rfl, hLU2, hgr, r1, r2, r3⟩
   have hLQ2 := hLQ.grown hgr (by omega)
   have hLV2 := hLV.grown hgr hvn
   have cq2 : w4.cell? ⟨w3.heap.size, k - 1, none⟩ = some (.int .u32 (vq : Int)) := (World.cell?_of_block (hgr.block w3.heap.size hql (by simp; omega))).trans cq
   have fq2 := hLQ2.free (k - 1)
   have hl4 := HQ.out rem r2 r3 r1
   have hgr4 : Below w.heap.size w w4 := hbl.grown hgr hwz (fun j hj => by cases hj; omega)
   clear HS HQ hLU hLV hLQ hat hgr cq fq
   go_wp2
   go_roundw
   case rel => exact ⟨k - 1, _, _, by omega, by go_num, (by repeat (first | exact hgr4 | refine Below.drew ?_ | refine below_drewN ?_ _ | refine Below.setCell ?_ (by simp; omega) _ | refine Below.alloc ?_ (by simp; omega) _)), (by repeat (first | exact hLU2 | refine LB.drew ?_ | refine LB.far ?_ (by omega) _ _)), (by repeat (first | exact hLV2 | refine LB.drew ?_ | refine LB.far ?_ (by omega) _ _)), hLQ2.set_ _ _ _ rfl, hl4⟩
   case measure => simp [intOf]; omega
  ·obtain rfl : k = 0 := by omega
   have hat2 := hat
   rw [hvv] at hat2
   obtain ⟨f1, f2, f3, f4, f5⟩ := LongAt_end hat2 huv HT.out.2 hypos
   have hUl : U.length = xs.length + 1 := by
    obtain ⟨rem, qq, q1, q2, _⟩ := hat.ex
    have := HM.out
    rw [q1]; simp [q2]; omega
   have hmq := hLQ.mg f3 (by omega)
   have hmu := hLU.mg f4 (by omega)
   have hnq := hid (hLQ.nw (B := w.heap.size) (by omega))
   have htr := trim_at _ _ _ _ hmq
   have hsr := fun (w5 : World) (h5 : Below wr.heap.size wr w5) => shiftRight_any _ _ s U w5 (hmu.below h5) hsh (by omega)
   rw [f5, f1] at htr
   rw [hUl, f2] at hsr
   have HTR := hid htr
   have HSR := hid hsr
   clear f1 f2 f3 f4 f5 hUl hmq hmu htr hsr hvv hv2 hov hou huv hul hypos hat hat2 hLU hLV hLQ
   go_wp2_with fail
   refine (HTR.out).mono ?_
   rintro e w4 ⟨cc, rfl, hr1, hr2⟩
   go_wp2_with fail
   refine (HSR.out _ hr2).mono ?_
   rintro e w5 ⟨R5, cc5, rfl, hr3, hr4⟩
   go_wp2
   go_ret2
   exact ⟨_, cc, R5, cc5, rfl, hr1.below hr4, hr3, hbl.trans ((hr2.mono hwz).trans (hr4.mono (Nat.le_trans hwz hr2.size))), (hnq.out.below hr2).below hr4⟩
theorem divide_nw (A B : Option Addr) (c d : Nat) (xs ys : List Nat) (w : World) (ha : Mg w A c xs) (hb : Mg w B d ys) (na : Nrm xs) (nb : Nrm ys) (hy : ys ≠ []) (hs : xs.length ≤ 1073741823) :
  Calls Tryz.prog 65 #[.slice A xs.length c, .slice B ys.length d] w (RetQRn w (val xs / val ys) (val xs % val ys)) := by
 by_cases h : val xs < val ys
 ·exact divide_lt A B c d xs ys w ha hb na nb h (by omega)
 ·have hxy : ys.length ≤ xs.length := by
   rcases Nat.lt_or_ge xs.length ys.length with h1 | h1
   ·exact absurd (val_len_lt ha.ok nb h1) h
   ·exact h1
  by_cases h1 : ys.length = 1
  ·obtain ⟨t, rfl⟩ : ∃ t, ys = [t] := by
    match ys, h1 with
    | [t], _ => exact ⟨t, rfl⟩
   obtain ⟨b, o, rfl, _⟩ := hb.rd.at_ (k := 0) (by simp)
   have ht : t ≠ 0 := by intro h0; subst h0; simp [Nrm] at nb
   have hv : val [t] = t := by simp [val]
   rw [hv] at h ⊢
   exact divide_one A b o c d t xs w ha hb na ht (by omega) (by omega)
  ·have h2 : 2 ≤ ys.length := by
    have : ys.length ≠ 0 := by intro h0; exact hy (List.eq_nil_of_length_eq_zero h0)
    omega
   exact divide_big A B c d ys.length (xs.length + 1 - ys.length) xs ys w ha hb na nb rfl h2 (by omega) (by omega) (by omega) hs
theorem divide_any (A B : Option Addr) (c d : Nat) (xs ys : List Nat) (w : World) (ha : Mg w A c xs) (hb : Mg w B d ys) (na : Nrm xs) (nb : Nrm ys) (hy : ys ≠ []) (hs : xs.length ≤ 1073741823) :
  Calls Tryz.prog 65 #[.slice A xs.length c, .slice B ys.length d] w (RetQR w (val xs / val ys) (val xs % val ys)) := (divide_nw A B c d xs ys w ha hb na nb hy hs).mono fun _ _ h => h.any
end Go.Proofs.YtfdmlfpldgobjaaGreatDoor
/- Magnitudes: the walk of divisor. Conditions: none. -/
namespace Go.Proofs.YtfdmlfpldgobjaaGreatDoor
open Go.RowKit Big
theorem gcd_step (a b : Nat) : Nat.gcd b (a % b) = Nat.gcd a b := by
 rw [Nat.gcd_comm a b, Nat.gcd_rec b a, Nat.gcd_comm]
theorem val_two {xs : List Nat} (ho : Ok xs) (h : xs.length ≤ 2) : val xs ≤ 18446744073709551615 := by
 match xs, h, ho with
 | [], _, _ => simp [val]
 | [x], _, ho => have := ho.head; simp [val]; omega
 | [x, y], _, ho => have := ho.head; have := ho.tail.head; simp only [val]; omega
theorem limbs_mod_len {ys : List Nat} (ho : Ok ys) {r : Nat} (h : r < val ys) : (limbs r).length ≤ ys.length := by
 rw [limbs_len_iff]; have := val_lt_pow ho; omega
set_option maxHeartbeats 2000000 in
theorem divisor_any (A B : Option Addr) (c d : Nat) (xs ys : List Nat) (w : World) (ha : Mg w A c xs) (hb : Mg w B d ys) (na : Nrm xs) (nb : Nrm ys) (hs : xs.length ≤ 1073741823) (ht : ys.length ≤ 1073741823) :
  Calls Tryz.prog 91 #[.slice A xs.length c, .slice B ys.length d] w (RetN w (Nat.gcd (val xs) (val ys))) := by
 go_enter Tryz.func91, Tryz.ntmps91
 go_wp2
 go_loopg [0, 1] (val ys) (fun g s0 s1 wr => ∃ (A1 B1 : Option Addr) (c1 d1 : Nat) (x1 y1 : List Nat), s0 = .slice A1 x1.length c1 ∧ s1 = .slice B1 y1.length d1 ∧ x1.length ≤ 1073741823 ∧ y1.length ≤ 1073741823 ∧ Below w.heap.size w wr ∧ Mg wr A1 c1 x1 ∧ Mg wr B1 d1 y1 ∧ Nrm x1 ∧ Nrm y1 ∧ Hid (g = val y1) ∧ Hid (Nat.gcd (val x1) (val y1) = Nat.gcd (val xs) (val ys)))
 case atStart => exact ⟨A, B, c, d, xs, ys, rfl, rfl, hs, ht, Below.refl _ _, ha, hb, na, nb, rfl, rfl⟩
 case round =>
  clear ha hb na nb hs ht
  obtain ⟨A1, B1, c1, d1, x1, y1, rfl, rfl, hx, hy, hbl, ha, hb, na, nb, hg, hgcd⟩ := hrel
  by_cases h0 : 0 < y1.length
  ·have hne : y1 ≠ [] := by intro h; subst h; simp at h0
   have hpos := val_pos nb hne
   by_cases h2 : x1.length ≤ 2 ∧ y1.length ≤ 2
   ·obtain ⟨h2a, h2b⟩ := h2
    obtain ⟨wo, rfl⟩ : ∃ wo : World, wo = wr := ⟨_, rfl⟩
    have hx64 : val x1 ≤ 18446744073709551615 := val_two ha.ok h2a
    have hy64 : val y1 ≤ 18446744073709551615 := val_two hb.ok h2b
    have wx := word_any A1 c1 x1 wo ha h2a
    have wy := fun (w5 : World) (h5 : Below wo.heap.size wo w5) => word_any B1 d1 y1 w5 (hb.below h5) h2b
    generalize val x1 = X at *
    generalize val y1 = Y at *
    have WX := hid wx
    have WY := hid wy
    clear wx wy
    go_wp2_with fail
    refine (WX.out).mono ?_
    rintro e w1 ⟨rfl, hb1⟩
    go_wp2_with fail
    refine (WY.out _ hb1).mono ?_
    rintro e w2 ⟨rfl, hb2⟩
    have hbl2 : Below w.heap.size w w2 := hbl.trans ((hb1.mono hbl.size).trans (hb2.mono (Nat.le_trans hbl.size hb1.size)))
    clear WX WY hb1 hb2 ha hb hbl
    go_wp2_with fail
    go_loopw [5, 6] (fun s5 s6 wr => ∃ X Y : Nat, s5 = .int .u64 X ∧ s6 = .int .u64 Y ∧ X ≤ 18446744073709551615 ∧ Y ≤ 18446744073709551615 ∧ Below w.heap.size w wr ∧ Hid (Nat.gcd X Y = Nat.gcd (val xs) (val ys))) (fun _ s6 _ => (intOf s6).toNat)
    case atStart => exact ⟨X, Y, rfl, rfl, hx64, hy64, hbl2, hgcd⟩
    case round =>
     clear hg hgcd hbl2 hpos hx64 hy64
     obtain ⟨X, Y, rfl, rfl, hX, hY, hbl, hgcd⟩ := hrel
     by_cases hy0 : 0 < Y
     ·have hm : (X : Int) % (Y : Int) = ((X % Y : Nat) : Int) := (Int.natCast_emod _ _).symm
      have hlt := Nat.mod_lt X hy0
      have hstep : Hid (Nat.gcd Y (X % Y) = Nat.gcd (val xs) (val ys)) := (gcd_step X Y).trans hgcd.out
      generalize X % Y = Z at *
      go_wp2
      go_quiet (fail)
      go_wp2_with fail
      go_roundw
      case rel => exact ⟨Y, Z, rfl, val_i hm, hY, by omega, (by repeat (first | exact hbl | refine Below.drew ?_ | refine below_drewN ?_ _ | refine Below.setCell ?_ (by exact Nat.le_refl _) _ | refine Below.alloc ?_ (by simp; omega) _)), hstep⟩
      case measure => simp [intOf, hm]; omega
     ·obtain rfl : Y = 0 := by omega
      have hG : Hid (X = Nat.gcd (val xs) (val ys)) := by have := hgcd.out; rw [Nat.gcd_zero_right] at this; exact this
      go_wp2_with (go_at_call 64; refine (fromWord_any X _ hX).mono ?_; rintro e w3 ⟨R3, cc3, rfl, hr3, hr4⟩)
      go_ret
      rw [← hG.out]
      exact ⟨R3, cc3, rfl, hr3, hbl.trans (hr4.mono hbl.size)⟩
   ·have HP := hid hpos
    have hdv := fun (w5 : World) (h5 : Below wr.heap.size wr w5) => divide_any A1 B1 c1 d1 x1 y1 w5 (ha.below h5) (hb.below h5) na nb hne hx
    have HD := hid hdv
    clear hdv hpos
    by_cases h2a : x1.length ≤ 2
    ·have h2b : ¬ y1.length ≤ 2 := fun h => h2 ⟨h2a, h⟩
     clear h2
     go_wp2_with (go_at_call 65; refine (HD.out _ (Below.refl _ _)).mono ?_; rintro e w4 ⟨Aq, cq, Ar, cr, rfl, hq, hr, hb4⟩)
     go_roundg (val x1 % val y1)
     case measure => rw [hg.out]; exact Nat.mod_lt _ HP.out
     case rel => exact ⟨B1, Ar, d1, cr, y1, limbs (val x1 % val y1), rfl, rfl, hy, Nat.le_trans (limbs_mod_len hb.ok (Nat.mod_lt _ HP.out)) hy, hbl.trans (hb4.mono hbl.size), hb.below hb4, hr, nb, nrm_limbs _, (val_limbs _).symm, by unfold Hid; rw [val_limbs, gcd_step]; exact hgcd.out⟩
    ·clear h2
     go_wp2_with (go_at_call 65; refine (HD.out _ (Below.refl _ _)).mono ?_; rintro e w4 ⟨Aq, cq, Ar, cr, rfl, hq, hr, hb4⟩)
     go_roundg (val x1 % val y1)
     case measure => rw [hg.out]; exact Nat.mod_lt _ HP.out
     case rel => exact ⟨B1, Ar, d1, cr, y1, limbs (val x1 % val y1), rfl, rfl, hy, Nat.le_trans (limbs_mod_len hb.ok (Nat.mod_lt _ HP.out)) hy, hbl.trans (hb4.mono hbl.size), hb.below hb4, hr, nb, nrm_limbs _, (val_limbs _).symm, by unfold Hid; rw [val_limbs, gcd_step]; exact hgcd.out⟩
  ·have he : y1 = [] := List.eq_nil_of_length_eq_zero (by omega)
   subst he
   have hG : Hid (val x1 = Nat.gcd (val xs) (val ys)) := by have := hgcd.out; rw [show val [] = 0 from rfl, Nat.gcd_zero_right] at this; exact this
   go_wp2_with (at_builtin; refine wpList_app rfl (.const (.slice none 0 0)) (.tmp 40) 22 rfl 61 (.int .u32 0) 4 Tryz.underlying22 info32 rfl w.heap.size lim (fun _ => rfl) _ [] rfl (World.ownsRow_nil _ _ _ _) A1 c1 x1 rfl ha.rd (by simp; omega) (by simp; omega) hbl.size ?_; intro v' w2 hown hgr hwh)
   obtain ⟨R, cc, rfl, hm⟩ := own_mg hown ha.ok
   go_wp2
   go_ret
   have hl : limbs (val x1) = x1 := limbs_val ha.ok na
   rw [← hG.out]
   exact ⟨R, cc, by rw [hl]; rfl, by rw [hl]; exact hm, hbl.trans (below_app (World.ownsRow_nil wr w.heap.size 61 1) hgr hbl.size)⟩
end Go.Proofs.YtfdmlfpldgobjaaGreatDoor
/- Integers: walks of integer, bounded, Valid. Conditions: none. -/
namespace Go.Proofs.YtfdmlfpldgobjaaGreatDoor
open Go.RowKit Big
def sg (neg : Bool) (n : Nat) : Int := if neg then -(n : Int) else n
theorem natAbs_sg (neg : Bool) (n : Nat) : (sg neg n).natAbs = n := by unfold sg; split <;> omega
theorem sg_neg (neg : Bool) (n : Nat) (h : n ≠ 0) : decide (sg neg n < 0) = neg := by
 unfold sg; cases neg
 ·simp
 ·simp; omega
theorem sg_zero (neg : Bool) : sg neg 0 = 0 := by unfold sg; split <;> simp
theorem sg_self (z : Int) : sg (decide (z < 0)) z.natAbs = z := by unfold sg; split <;> simp_all <;> omega
/-- an integer handed back -/
def RetZ (w : World) (z : Int) (e : Ending) (w' : World) : Prop :=
 ∃ A c, e = .returned (.agg #[.bool (decide ((z) < 0)), .slice A (limbs (Int.natAbs (z))).length c]) ∧ Mg w' A c (limbs z.natAbs) ∧ Below w.heap.size w w'
/-- an integer and an error number handed back -/
def RetZE (w : World) (z : Int) (err : Int) (e : Ending) (w' : World) : Prop :=
 ∃ A c, e = .returned (.tuple #[.agg #[.bool (decide ((z) < 0)), .slice A (limbs (Int.natAbs (z))).length c], .int .i64 err]) ∧ Mg w' A c (limbs z.natAbs) ∧ Below w.heap.size w w'
/-- the same, and what is said of the address -/
def RetZp (P : World → Option Addr → Prop) (w : World) (z : Int) (e : Ending) (w' : World) : Prop :=
 ∃ A c, e = .returned (.agg #[.bool (decide ((z) < 0)), .slice A (limbs (Int.natAbs (z))).length c]) ∧ Mg w' A c (limbs z.natAbs) ∧ Below w.heap.size w w' ∧ Hid (P w' A)
def RetZEp (P : World → Option Addr → Prop) (w : World) (z : Int) (err : Int) (e : Ending) (w' : World) : Prop :=
 ∃ A c, e = .returned (.tuple #[.agg #[.bool (decide ((z) < 0)), .slice A (limbs (Int.natAbs (z))).length c], .int .i64 err]) ∧ Mg w' A c (limbs z.natAbs) ∧ Below w.heap.size w w' ∧ Hid (P w' A)
theorem RetZp.any {P : World → Option Addr → Prop} {w w' : World} {z : Int} {e : Ending} (h : RetZp P w z e w') : RetZ w z e w' := by
 obtain ⟨A, c, h1, h2, h3, _⟩ := h; exact ⟨A, c, h1, h2, h3⟩
theorem RetZEp.any {P : World → Option Addr → Prop} {w w' : World} {z err : Int} {e : Ending} (h : RetZEp P w z err e w') : RetZE w z err e w' := by
 obtain ⟨A, c, h1, h2, h3, _⟩ := h; exact ⟨A, c, h1, h2, h3⟩
/-- what was new stays new -/
def Nwi (w : World) (A0 : Option Addr) (w' : World) (A : Option Addr) : Prop := ∀ B, Nw B w A0 → Nw B w' A
theorem mg_nil (w : World) : Mg w none 0 (limbs 0) := ⟨by simp [limbs_zero], by omega, ok_limbs _, by rw [limbs_zero]; exact Rd.nil _ _⟩
theorem retZp_zero {P : World → Option Addr → Prop} {w w' : World} (hb : Below w.heap.size w w') (hp : P w' none) : RetZp P w 0 (.returned (.agg #[.bool false, .slice none 0 0])) w' := ⟨none, 0, by simp [limbs_zero], mg_nil _, hb, hp⟩
theorem retZEp_zero {P : World → Option Addr → Prop} {w w' : World} (err : Int) (hb : Below w.heap.size w w') (hp : P w' none) : RetZEp P w 0 err (.returned (.tuple #[.agg #[.bool false, .slice none 0 0], .int .i64 err])) w' := ⟨none, 0, by simp [limbs_zero], mg_nil _, hb, hp⟩
theorem retZE_zero {w w' : World} (err : Int) (hb : Below w.heap.size w w') : RetZE w 0 err (.returned (.tuple #[.agg #[.bool false, .slice none 0 0], .int .i64 err])) w' := ⟨none, 0, by simp [limbs_zero], mg_nil _, hb⟩
/-- a store over a cell that holds no limb leaves every slice of limbs alone -/
theorem Mg.set_ {w : World} {A : Option Addr} {c : Nat} {xs : List Nat} (h : Mg w A c xs) (g i : Nat) (v u : Value) (hv : w.cell? ⟨g, i, none⟩ = some v) (hn : ∀ n, v ≠ .int .u32 n) : Mg (w.setCell ⟨g, i, none⟩ u) A c xs :=
 ⟨h.cap, h.max, h.ok, fun hl => by
  obtain ⟨b, o, e, hB, hc⟩ := h.rd hl
  refine ⟨b, o, e, by simpa using hB, fun j hj => ?_⟩
  rw [World.cell?_setCell_other]
  ·exact hc j hj
  ·intro he
   have h1 := hc j hj
   first | rw [he] at h1 | rw [← he] at h1
   rw [hv] at h1
   injection h1 with h1
   exact hn _ h1⟩
theorem below_set {B : Nat} {a w : World} (h : Below B a w) {g : Nat} (hg : B ≤ g) (i : Nat) (u : Value) : Below B a (w.setCell ⟨g, i, none⟩ u) := h.setCell (p := ⟨g, i, none⟩) hg u
theorem cell_set_ne {w : World} {g i j : Nat} {u : Value} (h : i ≠ j) : (w.setCell ⟨g, i, none⟩ u).cell? ⟨g, j, none⟩ = w.cell? ⟨g, j, none⟩ := World.cell?_setCell_other _ _ _ _ (by first | (simp; done) | (simp; omega))
/-- the last stores of a function that hands an integer back -/
theorem fin_ze {w w1 : World} {g : Nat} {z err : Int} {A : Option Addr} {c : Nat} {b0 : Bool} {A1 : Option Addr} {n1 c1 : Nat} (hr : Mg w1 A c (limbs z.natAbs)) (hb : Below w.heap.size w w1) (hg : w.heap.size ≤ g)
  (h0 : w1.cell? ⟨g, 0, none⟩ = some (.bool b0)) (h1 : w1.cell? ⟨g, 1, none⟩ = some (.slice A1 n1 c1)) (u0 u1 : Value) :
  RetZE w z err (.returned (.tuple #[.agg #[.bool (decide ((z) < 0)), .slice A (limbs (Int.natAbs (z))).length c], .int .i64 err])) ((w1.setCell ⟨g, 0, none⟩ u0).setCell ⟨g, 1, none⟩ u1) :=
 ⟨A, c, rfl, (hr.set_ g 0 _ u0 h0 (by simp)).set_ g 1 _ u1 ((cell_set_ne (by omega)).trans h1) (by simp), below_set (below_set hb hg _ _) hg _ _⟩
theorem fin_z {w w1 : World} {g : Nat} {z : Int} {A : Option Addr} {c : Nat} {b0 : Bool} {A1 : Option Addr} {n1 c1 : Nat} (hr : Mg w1 A c (limbs z.natAbs)) (hb : Below w.heap.size w w1) (hg : w.heap.size ≤ g)
  (h0 : w1.cell? ⟨g, 0, none⟩ = some (.bool b0)) (h1 : w1.cell? ⟨g, 1, none⟩ = some (.slice A1 n1 c1)) (u0 u1 : Value) :
  RetZ w z (.returned (.agg #[.bool (decide ((z) < 0)), .slice A (limbs (Int.natAbs (z))).length c])) ((w1.setCell ⟨g, 0, none⟩ u0).setCell ⟨g, 1, none⟩ u1) :=
 ⟨A, c, rfl, (hr.set_ g 0 _ u0 h0 (by simp)).set_ g 1 _ u1 ((cell_set_ne (by omega)).trans h1) (by simp), below_set (below_set hb hg _ _) hg _ _⟩
theorem fin_zep {P : World → Option Addr → Prop} {w w1 : World} {g : Nat} {z err : Int} {A : Option Addr} {c : Nat} {b0 : Bool} {A1 : Option Addr} {n1 c1 : Nat} (hr : Mg w1 A c (limbs z.natAbs)) (hb : Below w.heap.size w w1) (hg : w.heap.size ≤ g)
  (h0 : w1.cell? ⟨g, 0, none⟩ = some (.bool b0)) (h1 : w1.cell? ⟨g, 1, none⟩ = some (.slice A1 n1 c1)) (u0 u1 : Value) (hp : P ((w1.setCell ⟨g, 0, none⟩ u0).setCell ⟨g, 1, none⟩ u1) A) :
  RetZEp P w z err (.returned (.tuple #[.agg #[.bool (decide ((z) < 0)), .slice A (limbs (Int.natAbs (z))).length c], .int .i64 err])) ((w1.setCell ⟨g, 0, none⟩ u0).setCell ⟨g, 1, none⟩ u1) :=
 ⟨A, c, rfl, (hr.set_ g 0 _ u0 h0 (by simp)).set_ g 1 _ u1 ((cell_set_ne (by omega)).trans h1) (by simp), below_set (below_set hb hg _ _) hg _ _, hp⟩
theorem fin_zp {P : World → Option Addr → Prop} {w w1 : World} {g : Nat} {z : Int} {A : Option Addr} {c : Nat} {b0 : Bool} {A1 : Option Addr} {n1 c1 : Nat} (hr : Mg w1 A c (limbs z.natAbs)) (hb : Below w.heap.size w w1) (hg : w.heap.size ≤ g)
  (h0 : w1.cell? ⟨g, 0, none⟩ = some (.bool b0)) (h1 : w1.cell? ⟨g, 1, none⟩ = some (.slice A1 n1 c1)) (u0 u1 : Value) (hp : P ((w1.setCell ⟨g, 0, none⟩ u0).setCell ⟨g, 1, none⟩ u1) A) :
  RetZp P w z (.returned (.agg #[.bool (decide ((z) < 0)), .slice A (limbs (Int.natAbs (z))).length c])) ((w1.setCell ⟨g, 0, none⟩ u0).setCell ⟨g, 1, none⟩ u1) :=
 ⟨A, c, rfl, (hr.set_ g 0 _ u0 h0 (by simp)).set_ g 1 _ u1 ((cell_set_ne (by omega)).trans h1) (by simp), below_set (below_set hb hg _ _) hg _ _, hp⟩
set_option maxHeartbeats 400000 in
theorem integer_nw (neg : Bool) (A : Option Addr) (c n : Nat) (w : World) (h : Mg w A c (limbs n)) :
  Calls Tryz.prog 63 #[.bool neg, .slice A (limbs n).length c] w (RetZp (Nwi w A) w (sg neg n)) := by
 by_cases h0 : n = 0
 ·subst h0
  rw [sg_zero]
  have hl : (limbs 0).length = 0 := by simp [limbs_zero]
  rw [hl]
  clear h
  go_enter Tryz.func63, Tryz.ntmps63
  go_wp2
  exact bodyPost_ret (v := .agg #[.bool false, .slice none 0 0]) (by simp [results, Tryz.results63, go_sem]) rfl (retZp_zero ((Below.refl _ _).alloc (Nat.le_refl _) _) fun _ _ => .nil)
 ·have hl : 0 < (limbs n).length := by rw [limbs_pos h0]; simp
  have hl1 : (((limbs n).length : Int) == 0) = false := by rw [beq_eq_false_iff_ne]; omega
  have hr : ∀ w', Below w.heap.size w w' → RetZp (Nwi w A) w (sg neg n) (.returned (.agg #[.bool neg, .slice A (limbs n).length c])) w' := fun w' hb =>
   ⟨A, c, by rw [sg_neg neg n h0, natAbs_sg], by rw [natAbs_sg]; exact h.below hb, hb, fun _ hn => hn.below hb⟩
  have HR := hid hr
  clear hr h h0
  go_enter Tryz.func63, Tryz.ntmps63
  go_wp2
  exact bodyPost_ret (v := .agg #[.bool neg, .slice A (limbs n).length c]) (by simp [results, Tryz.results63, go_sem]) rfl (HR.out _ ((Below.refl _ _).alloc (Nat.le_refl _) _))
theorem integer_any (neg : Bool) (A : Option Addr) (c n : Nat) (w : World) (h : Mg w A c (limbs n)) :
  Calls Tryz.prog 63 #[.bool neg, .slice A (limbs n).length c] w (RetZ w (sg neg n)) := (integer_nw neg A c n w h).mono fun _ _ h => h.any
/-- what fits -/
def fits (z : Int) : Prop := (limbs z.natAbs).length ≤ 512
instance (z : Int) : Decidable (fits z) := inferInstanceAs (Decidable (_ ≤ _))
def fitE (z : Int) : Int × Int := if fits z then (z, 0) else (0, 4)
theorem fitE_yes {z : Int} (h : fits z) : fitE z = (z, 0) := by unfold fitE; rw [if_pos h]
theorem fitE_no {z : Int} (h : ¬ fits z) : fitE z = (0, 4) := by unfold fitE; rw [if_neg h]
def RetF (w : World) (z : Int) (e : Ending) (w' : World) : Prop := RetZE w (fitE z).1 (fitE z).2 e w'
def RetFp (P : World → Option Addr → Prop) (w : World) (z : Int) (e : Ending) (w' : World) : Prop := RetZEp P w (fitE z).1 (fitE z).2 e w'
theorem RetFp.any {P : World → Option Addr → Prop} {w w' : World} {z : Int} {e : Ending} (h : RetFp P w z e w') : RetF w z e w' := RetZEp.any h
set_option maxHeartbeats 400000 in
theorem bounded_nw (neg : Bool) (A : Option Addr) (c n : Nat) (w : World) (h : Mg w A c (limbs n)) :
  Calls Tryz.prog 101 #[.bool neg, .slice A (limbs n).length c] w (RetFp (Nwi w A) w (sg neg n)) := by
 by_cases hf : fits (sg neg n)
 ·have hl : (limbs n).length ≤ 512 := by unfold fits at hf; rwa [natAbs_sg] at hf
  have hi := fun (w1 : World) (h1 : Below w.heap.size w w1) => integer_nw neg A c n w1 (h.below h1)
  have HI := hid hi
  have hR : RetFp (Nwi w A) w (sg neg n) = RetZEp (Nwi w A) w (sg neg n) 0 := by unfold RetFp; rw [fitE_yes hf]
  rw [hR]
  clear hi h hf hR
  go_enter Tryz.func101, Tryz.ntmps101
  go_wp2_with (go_at_call 63; refine (HI.out _ ((Below.refl _ _).alloc (Nat.le_refl _) _)).mono ?_; rintro e w1 ⟨R, cc, rfl, hr, hb1, hn1⟩; obtain ⟨hc1, hf1⟩ := bcell hb1; have hz1 := hb1.size; simp only [World.size_alloc] at hz1)
  have k0 := (hc1 w.heap.size 0 (by simp))
  have k1 := (hc1 w.heap.size 1 (by simp))
  simp at k0 k1
  exact bodyPost_ret (v := .tuple #[.agg #[.bool (decide ((sg neg n) < 0)), .slice R (limbs (Int.natAbs (sg neg n))).length cc], .int .i64 0]) (by simp [results, Tryz.results101, go_sem, k0, k1]) rfl (fin_zep hr (((Below.refl _ _).alloc (Nat.le_refl _) _).trans (hb1.mono (by simp))) (Nat.le_refl _) k0 k1 _ _ (fun B hn => ((hn1.out B (hn.alloc _)).set _ _).set _ _))
 ·have hl : 512 < (limbs n).length := by unfold fits at hf; rw [natAbs_sg] at hf; omega
  have hR : RetFp (Nwi w A) w (sg neg n) = RetZEp (Nwi w A) w 0 4 := by unfold RetFp; rw [fitE_no hf]
  rw [hR]
  clear hf hR h
  go_enter Tryz.func101, Tryz.ntmps101
  go_wp2
  exact bodyPost_ret (v := .tuple #[.agg #[.bool false, .slice none 0 0], .int .i64 4]) (by simp [results, Tryz.results101, go_sem]) rfl (retZEp_zero 4 ((Below.refl _ _).alloc (Nat.le_refl _) _) fun _ _ => .nil)
theorem bounded_any (neg : Bool) (A : Option Addr) (c n : Nat) (w : World) (h : Mg w A c (limbs n)) :
  Calls Tryz.prog 101 #[.bool neg, .slice A (limbs n).length c] w (RetF w (sg neg n)) := (bounded_nw neg A c n w h).mono fun _ _ h => h.any
end Go.Proofs.YtfdmlfpldgobjaaGreatDoor
/- Integers: the natural numbers' contracts at canonical limbs; Valid; sum, Add, Sub, Mul. Conditions: none. -/
namespace Go.Proofs.YtfdmlfpldgobjaaGreatDoor
open Go.RowKit Big
section
variable (A B : Option Addr) (c d n m : Nat) (w : World) (ha : Mg w A c (limbs n)) (hb : Mg w B d (limbs m)) (hs : (limbs n).length ≤ 1048576) (ht : (limbs m).length ≤ 1048576)
include ha hb
theorem cmp_n : Calls Tryz.prog 69 #[.slice A (limbs n).length c, .slice B (limbs m).length d] w (RetI w (ord n m)) := by
 have := compare_any A B c d _ _ w ha hb (nrm_limbs _) (nrm_limbs _); rwa [val_limbs, val_limbs] at this
include hs ht
theorem add_nw' : Calls Tryz.prog 66 #[.slice A (limbs n).length c, .slice B (limbs m).length d] w (RetNn w (n + m)) := by
 have _h1 := hs
 have _h2 := ht
 have := add_nw A B c d _ _ w ha hb (by omega) (by omega); rwa [val_limbs, val_limbs] at this
theorem mul_n : Calls Tryz.prog 113 #[.slice A (limbs n).length c, .slice B (limbs m).length d] w (RetN w (n * m)) := by
 have _h1 := hs
 have _h2 := ht
 have := multiply_any A B c d _ _ w ha hb (by omega) (by omega); rwa [val_limbs, val_limbs] at this
theorem gcd_n : Calls Tryz.prog 91 #[.slice A (limbs n).length c, .slice B (limbs m).length d] w (RetN w (Nat.gcd n m)) := by
 have _h1 := hs
 have _h2 := ht
 have := divisor_any A B c d _ _ w ha hb (nrm_limbs _) (nrm_limbs _) (by omega) (by omega); rwa [val_limbs, val_limbs] at this
theorem div_nw' (hm : m ≠ 0) : Calls Tryz.prog 65 #[.slice A (limbs n).length c, .slice B (limbs m).length d] w (RetQRn w (n / m) (n % m)) := by
 have _h1 := hs
 have _h2 := ht
 have := divide_nw A B c d _ _ w ha hb (nrm_limbs _) (nrm_limbs _) (fun h => hm (limbs_eq_nil.1 h)) (by omega); rwa [val_limbs, val_limbs] at this
theorem sub_nw' (hle : m ≤ n) : Calls Tryz.prog 67 #[.slice A (limbs n).length c, .slice B (limbs m).length d] w (RetNn w (n - m)) := by
 have _h1 := hs
 have _h2 := ht
 have hl : (limbs m).length ≤ (limbs n).length := by
  rw [limbs_len_iff]; have := val_lt_pow (ok_limbs n); rw [val_limbs] at this; omega
 have := subtract_nw A B c d _ _ w ha hb hl (by rw [val_limbs, val_limbs]; exact hle) (by omega); rwa [val_limbs, val_limbs] at this
theorem sub_n (hle : m ≤ n) : Calls Tryz.prog 67 #[.slice A (limbs n).length c, .slice B (limbs m).length d] w (RetN w (n - m)) := by
 have _h1 := hs
 have _h2 := ht
 have hl : (limbs m).length ≤ (limbs n).length := by
  rw [limbs_len_iff]; have := val_lt_pow (ok_limbs n); rw [val_limbs] at this; omega
 have := subtract_any A B c d _ _ w ha hb hl (by rw [val_limbs, val_limbs]; exact hle) (by omega); rwa [val_limbs, val_limbs] at this
end
def validB (neg : Bool) (xs : List Nat) : Bool := if xs = [] then !neg else decide (xs.length ≤ 512) && decide (xs.getLast? ≠ some 0)
theorem valid_z {neg : Bool} {xs : List Nat} (ho : Ok xs) (h : validB neg xs = true) : ∃ z : Int, neg = decide (z < 0) ∧ xs = limbs z.natAbs ∧ fits z := by
 unfold validB at h
 split at h
 ·rename_i h0
  subst h0
  refine ⟨0, by simpa using h, by simp [limbs_zero], by simp [fits, limbs_zero]⟩
 ·rename_i h0
  simp only [Bool.and_eq_true, decide_eq_true_eq] at h
  have hl := limbs_val ho (h.2 : Nrm xs)
  have hp := val_pos (h.2 : Nrm xs) h0
  refine ⟨sg neg (val xs), (sg_neg neg _ (by omega)).symm, by rw [natAbs_sg, hl], by unfold fits; rw [natAbs_sg, hl]; exact h.1⟩
theorem validB_z {z : Int} (h : fits z) : validB (decide (z < 0)) (limbs z.natAbs) = true := by
 unfold validB
 split
 ·rename_i h0
  have := limbs_eq_nil.1 h0
  simp; omega
 ·have h1 : (limbs z.natAbs).getLast? ≠ some 0 := nrm_limbs z.natAbs
  simp only [Bool.and_eq_true, decide_eq_true_eq]
  exact ⟨h, h1⟩
set_option maxHeartbeats 400000 in
theorem Valid_any (neg : Bool) (A : Option Addr) (c : Nat) (xs : List Nat) (w : World) (ha : Mg w A c xs) :
  Calls Tryz.prog 30 #[.agg #[.bool neg, .slice A xs.length c]] w fun e w' => e = .returned (.bool (validB neg xs)) ∧ Below w.heap.size w w' := by
 by_cases h0 : xs = []
 ·subst h0
  have hv : validB neg [] = !neg := by simp [validB]
  rw [hv]
  clear ha hv
  go_enter Tryz.func30, Tryz.ntmps30
  go_wp2
  go_ret
  exact ⟨by simp, (Below.refl _ _).alloc (Nat.le_refl _) _⟩
 ·have hl0 : 0 < xs.length := List.length_pos_iff.2 h0
  have hl1 : ((xs.length : Int) == 0) = false := by rw [beq_eq_false_iff_ne]; omega
  have hv : validB neg xs = (decide (xs.length ≤ 512) && decide (xs.getLast? ≠ some 0)) := by unfold validB; rw [if_neg h0]
  have hm := ha.max
  have hm2 := ha.cap
  by_cases h5 : xs.length ≤ 512
  ·obtain ⟨b, o, rfl, hB, hc⟩ := ha.rd.at_ (k := xs.length - 1) (by omega)
   have c1 := hc (xs.length - 1) (by omega)
   unfold lim at c1
   have hlast : xs.getLast? = some xs[xs.length - 1] := by rw [List.getLast?_eq_getElem?, List.getElem?_eq_getElem (by omega)]
   rw [hlast] at hv
   generalize xs[xs.length - 1] = t at *
   by_cases ht : t = 0
   ·have hv2 : validB neg xs = false := by rw [hv]; simp [ht]
    rw [hv2]
    subst ht
    clear hc hlast hv hv2 h0 ha
    go_enter Tryz.func30, Tryz.ntmps30
    go_wp2
    go_ret
    exact ⟨rfl, (Below.refl _ _).alloc (Nat.le_refl _) _⟩
   ·have hv2 : validB neg xs = true := by rw [hv]; simp [ht, h5]
    have ht1 : ((t : Int) != 0) = true := by rw [bne_iff_ne]; omega
    rw [hv2]
    clear hc hlast hv hv2 h0 ha ht
    go_enter Tryz.func30, Tryz.ntmps30
    go_wp2
    go_ret
    exact ⟨rfl, (Below.refl _ _).alloc (Nat.le_refl _) _⟩
  ·have hv2 : validB neg xs = false := by rw [hv]; simp [h5]
   rw [hv2]
   clear hv hv2 h0 ha
   go_enter Tryz.func30, Tryz.ntmps30
   go_wp2
   go_ret
   exact ⟨rfl, (Below.refl _ _).alloc (Nat.le_refl _) _⟩
theorem Valid_t {z : Int} {A : Option Addr} {c : Nat} {w : World} (ha : Mg w A c (limbs z.natAbs)) (h : fits z) :
  Calls Tryz.prog 30 #[.agg #[.bool (decide ((z) < 0)), .slice A (limbs (Int.natAbs (z))).length c]] w fun e w' => e = .returned (.bool true) ∧ Below w.heap.size w w' :=
 (Valid_any _ A c _ w ha).mono fun e w' ⟨h1, h2⟩ => ⟨by rw [h1, validB_z h], h2⟩
theorem Valid_f {neg : Bool} {A : Option Addr} {c : Nat} {xs : List Nat} {w : World} (ha : Mg w A c xs) (h : validB neg xs = false) :
  Calls Tryz.prog 30 #[.agg #[.bool neg, .slice A xs.length c]] w fun e w' => e = .returned (.bool false) ∧ Below w.heap.size w w' :=
 (Valid_any _ A c _ w ha).mono fun e w' ⟨h1, h2⟩ => ⟨by rw [h1, h], h2⟩
end Go.Proofs.YtfdmlfpldgobjaaGreatDoor
/- Integers: walks of sum, Add, Sub, Mul. Conditions: none. -/
namespace Go.Proofs.YtfdmlfpldgobjaaGreatDoor
open Go.RowKit Big
/-- a block that the call laid first keeps what it holds over what follows -/
theorem box_keep {w w1 : World} {X : Array Value} {t : TypeId} (hb : Below (w.alloc (.cells X t)).heap.size (w.alloc (.cells X t)) w1) :
  (∀ i, w1.cell? ⟨w.heap.size, i, none⟩ = X[i]?) ∧ (∀ i, w1.frozen? ⟨w.heap.size, i, none⟩ = false) ∧ w.heap.size < w1.heap.size :=
 ⟨fun i => (hb.cell (p := ⟨w.heap.size, i, none⟩) (by simp)).trans (World.cell?_alloc_at _ _ _ _ rfl), fun i => (hb.frozen (p := ⟨w.heap.size, i, none⟩) (by simp)).trans (World.frozen?_alloc_at _ _ _ _ rfl), by have := hb.size; simp at this; omega⟩
theorem sg_same (b : Bool) (n m : Nat) : sg b n + sg b m = sg b (n + m) := by unfold sg; split <;> omega
theorem sg_lt (a b : Bool) (n m : Nat) (h : a ≠ b) (hl : n < m) : sg a n + sg b m = sg b (m - n) := by
 unfold sg; cases a <;> cases b <;> simp_all <;> omega
theorem sg_ge (a b : Bool) (n m : Nat) (h : a ≠ b) (hl : m ≤ n) : sg a n + sg b m = sg a (n - m) := by
 unfold sg; cases a <;> cases b <;> simp_all <;> omega
theorem sg_not (z : Int) : sg (!decide (z < 0)) z.natAbs = -z := by unfold sg; split <;> simp_all <;> omega
theorem sg_cases (x : Int) : (∃ n : Nat, x = n ∧ decide (x < 0) = false ∧ x.natAbs = n) ∨ (∃ n : Nat, x = -(n : Int) ∧ decide (x < 0) = true ∧ x.natAbs = n) := by
 by_cases h : x < 0
 ·exact .inr ⟨x.natAbs, by omega, by simpa using h, rfl⟩
 ·exact .inl ⟨x.natAbs, by omega, by simpa using h, rfl⟩
theorem sg_mul (x y : Int) : sg (decide (x < 0) != decide (y < 0)) (x.natAbs * y.natAbs) = x * y := by
 rcases sg_cases x with ⟨n, e, h1, h2⟩ | ⟨n, e, h1, h2⟩ <;> rcases sg_cases y with ⟨m, f, h3, h4⟩ | ⟨m, f, h3, h4⟩ <;> rw [h1, h2, h3, h4] <;> subst e <;> subst f <;> simp [sg, Int.neg_mul, Int.mul_neg]
set_option maxHeartbeats 1000000 in
theorem sum_nw (an bn : Bool) (A B : Option Addr) (c d n m : Nat) (w : World) (ha : Mg w A c (limbs n)) (hb : Mg w B d (limbs m)) (hs : (limbs n).length ≤ 512) (ht : (limbs m).length ≤ 512) :
  Calls Tryz.prog 68 #[.bool an, .slice A (limbs n).length c, .bool bn, .slice B (limbs m).length d] w (RetFp (Nw w.heap.size) w (sg an n + sg bn m)) := by
 by_cases h : an = bn
 ·subst h
  rw [sg_same]
  have hadd := fun (w1 : World) (h1 : Below w.heap.size w w1) => add_nw' A B c d n m w1 (ha.below h1) (hb.below h1) (by omega) (by omega)
  have H1 := hid hadd
  have H2 := hid fun (w1 : World) (A1 : Option Addr) (c1 : Nat) (h1 : Mg w1 A1 c1 (limbs (n + m))) => bounded_nw an A1 c1 (n + m) w1 h1
  clear hadd ha hb hs ht
  go_enter Tryz.func68, Tryz.ntmps68
  go_wp2_with (first | (go_at_call 66; refine (H1.out _ (by exact (Below.refl _ _).alloc (Nat.le_refl _) _)).mono ?_; rintro e w1 ⟨R, cc, rfl, hr, hb1, hn1⟩; obtain ⟨hc1, hf1⟩ := bcell hb1; have hz1 := hb1.size; simp only [World.size_alloc] at hz1) | (go_at_call 101; refine (H2.out _ _ _ hr).mono ?_; rintro e w2 ⟨R2, cc2, rfl, hr2, hb2, hn2⟩; have hb12 := hb1.trans (hb2.mono hb1.size); obtain ⟨kc, kf, kz⟩ := box_keep hb12))
  have k0 := kc 0
  have k1 := kc 1
  simp at k0 k1
  refine bodyPost_ret (v := .tuple #[.agg #[.bool (decide (((fitE (sg an (n + m))).1) < 0)), .slice R2 (limbs (Int.natAbs ((fitE (sg an (n + m))).1))).length cc2], .int .i64 (fitE (sg an (n + m))).2]) ?_ rfl ?_
  ·simp [results, Tryz.results68, go_sem, k0, k1]
  ·exact fin_zep hr2 (((Below.refl _ _).alloc (Nat.le_refl _) _).trans (hb12.mono (by simp))) (Nat.le_refl _) k0 k1 _ _ (((hn2.out _ (hn1.out.mono (by simp))).set _ _).set _ _)
 ·by_cases hl : n < m
  ·rw [sg_lt an bn n m h hl]
   have H1 := hid fun (w1 : World) (h1 : Below w.heap.size w w1) => sub_nw' B A d c m n w1 (hb.below h1) (ha.below h1) (by omega) (by omega) (by omega)
   have H2 := hid fun (w1 : World) (A1 : Option Addr) (c1 : Nat) (h1 : Mg w1 A1 c1 (limbs (m - n))) => bounded_nw bn A1 c1 (m - n) w1 h1
   have H3 := hid fun (w1 : World) (h1 : Below w.heap.size w w1) => cmp_n A B c d n m w1 (ha.below h1) (hb.below h1)
   have ho := ord_lt hl
   rw [ho] at H3
   have hne : (an == bn) = false := by simp [h]
   clear ha hb hs ht ho hl h
   go_enter Tryz.func68, Tryz.ntmps68
   go_wp2_with (first | (go_at_call 69; refine (H3.out _ (by exact (Below.refl _ _).alloc (Nat.le_refl _) _)).mono ?_; rintro e w0 ⟨rfl, hb0⟩; obtain ⟨hc0, hf0⟩ := bcell hb0; have hz0 := hb0.size; simp only [World.size_alloc] at hz0) | (go_at_call 67; refine (H1.out _ (((Below.refl _ _).alloc (Nat.le_refl _) _).trans (hb0.mono (by simp)))).mono ?_; rintro e w1 ⟨R, cc, rfl, hr, hb1', hn1⟩; have hb1 := hb0.trans (hb1'.mono hb0.size); obtain ⟨hc1, hf1⟩ := bcell hb1; have hz1 := hb1.size; simp only [World.size_alloc] at hz1) | (go_at_call 101; refine (H2.out _ _ _ hr).mono ?_; rintro e w2 ⟨R2, cc2, rfl, hr2, hb2, hn2⟩; have hb12 := hb1.trans (hb2.mono hb1.size); obtain ⟨kc, kf, kz⟩ := box_keep hb12))
   have k0 := kc 0
   have k1 := kc 1
   simp at k0 k1
   refine bodyPost_ret (v := .tuple #[.agg #[.bool (decide (((fitE (sg bn (m - n))).1) < 0)), .slice R2 (limbs (Int.natAbs ((fitE (sg bn (m - n))).1))).length cc2], .int .i64 (fitE (sg bn (m - n))).2]) ?_ rfl ?_
   ·simp [results, Tryz.results68, go_sem, k0, k1]
   ·exact fin_zep hr2 (((Below.refl _ _).alloc (Nat.le_refl _) _).trans (hb12.mono (by simp))) (Nat.le_refl _) k0 k1 _ _ (((hn2.out _ (hn1.out.mono (by omega))).set _ _).set _ _)
  ·rw [sg_ge an bn n m h (by omega)]
   have H1 := hid fun (w1 : World) (h1 : Below w.heap.size w w1) => sub_nw' A B c d n m w1 (ha.below h1) (hb.below h1) (by omega) (by omega) (by omega)
   have H2 := hid fun (w1 : World) (A1 : Option Addr) (c1 : Nat) (h1 : Mg w1 A1 c1 (limbs (n - m))) => bounded_nw an A1 c1 (n - m) w1 h1
   have H3 := hid fun (w1 : World) (h1 : Below w.heap.size w w1) => cmp_n A B c d n m w1 (ha.below h1) (hb.below h1)
   have ho : 0 ≤ ord n m := by unfold ord; rw [if_neg hl]; split <;> omega
   generalize ord n m = ov at *
   have hne : (an == bn) = false := by simp [h]
   clear ha hb hs ht hl h
   go_enter Tryz.func68, Tryz.ntmps68
   go_wp2_with (first | (go_at_call 69; refine (H3.out _ (by exact (Below.refl _ _).alloc (Nat.le_refl _) _)).mono ?_; rintro e w0 ⟨rfl, hb0⟩; obtain ⟨hc0, hf0⟩ := bcell hb0; have hz0 := hb0.size; simp only [World.size_alloc] at hz0) | (go_at_call 67; refine (H1.out _ (((Below.refl _ _).alloc (Nat.le_refl _) _).trans (hb0.mono (by simp)))).mono ?_; rintro e w1 ⟨R, cc, rfl, hr, hb1', hn1⟩; have hb1 := hb0.trans (hb1'.mono hb0.size); obtain ⟨hc1, hf1⟩ := bcell hb1; have hz1 := hb1.size; simp only [World.size_alloc] at hz1) | (go_at_call 101; refine (H2.out _ _ _ hr).mono ?_; rintro e w2 ⟨R2, cc2, rfl, hr2, hb2, hn2⟩; have hb12 := hb1.trans (hb2.mono hb1.size); obtain ⟨kc, kf, kz⟩ := box_keep hb12))
   have k0 := kc 0
   have k1 := kc 1
   simp at k0 k1
   refine bodyPost_ret (v := .tuple #[.agg #[.bool (decide (((fitE (sg an (n - m))).1) < 0)), .slice R2 (limbs (Int.natAbs ((fitE (sg an (n - m))).1))).length cc2], .int .i64 (fitE (sg an (n - m))).2]) ?_ rfl ?_
   ·simp [results, Tryz.results68, go_sem, k0, k1]
   ·exact fin_zep hr2 (((Below.refl _ _).alloc (Nat.le_refl _) _).trans (hb12.mono (by simp))) (Nat.le_refl _) k0 k1 _ _ (((hn2.out _ (hn1.out.mono (by omega))).set _ _).set _ _)
theorem sum_any (an bn : Bool) (A B : Option Addr) (c d n m : Nat) (w : World) (ha : Mg w A c (limbs n)) (hb : Mg w B d (limbs m)) (hs : (limbs n).length ≤ 512) (ht : (limbs m).length ≤ 512) :
  Calls Tryz.prog 68 #[.bool an, .slice A (limbs n).length c, .bool bn, .slice B (limbs m).length d] w (RetF w (sg an n + sg bn m)) := (sum_nw an bn A B c d n m w ha hb hs ht).mono fun _ _ h => h.any
end Go.Proofs.YtfdmlfpldgobjaaGreatDoor
