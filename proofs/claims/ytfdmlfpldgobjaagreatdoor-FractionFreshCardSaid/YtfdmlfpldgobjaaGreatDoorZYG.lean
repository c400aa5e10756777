/- Package barscan/fraction: the walks of its natural numbers (the same Go text as those of barscan/bigint). Conditions: none. -/
import Derived.Test.YtfdmlfpldgobjaaGreatDoorZBi8
import Derived.Test.YtfdmlfpldgobjaaGreatDoorZYF
import Derived.Test.YtfdmlfpldgobjaaGreatDoorZBiC
set_option linter.unusedVariables false
set_option linter.unusedSimpArgs false
namespace Go.Proofs.YtfdmlfpldgobjaaGreatDoor
open Go.RowKit Big
set_option maxRecDepth 100000 in
set_option maxHeartbeats 4000000 in
theorem Frstep_any (g j hv n cu cv h : Nat) (Pre low Q vs Z : List Nat) (w : World) (hL : LB w g (Pre ++ low ++ [h] ++ Q)) (hV : LB w hv (vs ++ Z)) (hne : hv ≠ g) (hj : Pre.length = j) (hn : low.length = n) (hvn : vs.length = n) (h2 : 2 ≤ n)
  (okl : Ok low) (okv : Ok vs) (okh : h < 4294967296) (htop : 2147483648 ≤ vs.getD (n - 1) 0) (hU : val (low ++ [h]) < val vs * 4294967296) (hs : n ≤ 1073741824) (hjs : j ≤ 1073741824) :
  Calls Tryz.prog 88 #[.slice (some ⟨g, j, none⟩) (n + 1) cu, .slice (some ⟨hv, 0, none⟩) n cv] w fun e w' =>
   ∃ rem : List Nat, e = .returned (.int .u32 ((val (low ++ [h]) / val vs : Nat) : Int)) ∧ LB w' g (Pre ++ rem ++ [0] ++ Q) ∧ w.grownBy w' (some g) ∧ val rem = val (low ++ [h]) % val vs ∧ rem.length = n ∧ Ok rem := by
 have hS := shape_of (h := h) hn hvn h2 okl okv
 have o1 : low.getD (n - 1) 0 < 4294967296 := by rw [gd (by omega)]; exact okl.get (by omega)
 have o2 : low.getD (n - 2) 0 < 4294967296 := by rw [gd (by omega)]; exact okl.get (by omega)
 have o3 : vs.getD (n - 1) 0 < 4294967296 := by rw [gd (by omega)]; exact okv.get (by omega)
 have o4 : vs.getD (n - 2) 0 < 4294967296 := by rw [gd (by omega)]; exact okv.get (by omega)
 have cU0 := top_cell hL hj hn
 have cU1 := mid_cell hL hj hn (show n - 1 < n by omega)
 have cV1 := v_cell hV hvn (show n - 1 < n by omega)
 generalize hu1 : low.getD (n - 1) 0 = u1 at *
 generalize hu2 : low.getD (n - 2) 0 = u2 at *
 generalize hv1 : vs.getD (n - 1) 0 = v1 at *
 generalize hv2 : vs.getD (n - 2) 0 = v2 at *
 have hV0 : 0 < val vs := by
  rcases Nat.eq_zero_or_pos (val vs) with h | h
  ·rw [h] at hU; omega
  ·exact h
 have hQ := quot_lt hU
 have tb := guess_first hS hU o4
 have hq := guess_start hS o2 (val (low ++ [h]) / val vs) (by omega) (Nat.div_mul_le_self _ _)
 have hor1 := or32 h u1 okh o1
 have htd := cast_div h u1 v1
 have htm := cast_mod h u1 v1
 have hrl := Nat.mod_lt (h * 4294967296 + u1) (show 0 < v1 by omega)
 have hGs : Gs (val (low ++ [h])) (val vs) (h * 4294967296 + u1) u2 v1 v2 (4294967296 ^ (n - 2)) ((h * 4294967296 + u1) / v1) ((h * 4294967296 + u1) % v1) := ⟨hS, by rw [Nat.mul_comm]; exact Nat.div_add_mod _ _, hq, tb⟩
 have hG0 := hGs.le htop
 generalize (h * 4294967296 + u1) / v1 = G0 at *
 generalize (h * 4294967296 + u1) % v1 = R0 at *
 have HG := hid hGs
 have HQ := hid hQ
 have HJ := hid (And.intro hj (And.intro hn hvn))
 have HU := hid (And.intro hu1 (And.intro hu2 (And.intro hv1 hv2)))
 have HX := hid hU
 clear hu1 hu2 hv1 hv2 hGs hQ hj hn hvn hU hS hq tb
 have hnl : 2 ≤ n := h2
 go_enter Tryz.func88, Tryz.ntmps88
 go_wp2
 go_quiet (fail)
 go_wp2
 go_quiet (fail)
 go_upto_block 0 with fail
 go_cut [7] (fun s7 wx => ∃ G : Nat, s7 = .int .u64 G ∧ G < 4294967296 ∧ LB wx g (Pre ++ low ++ [h] ++ Q) ∧ LB wx hv (vs ++ Z) ∧ w.grownBy wx (some g) ∧ Hid (G = val (low ++ [h]) / val vs ∨ G = val (low ++ [h]) / val vs + 1))
 case first =>
  go_wp2_with fail
  go_loopw [7, 8] (fun s7 s8 wr => ∃ G R : Nat, s7 = .int .u64 G ∧ s8 = .int .u64 R ∧ G ≤ 4294967297 ∧ R < 4294967296 ∧ LB wr g (Pre ++ low ++ [h] ++ Q) ∧ LB wr hv (vs ++ Z) ∧ w.grownBy wr (some g) ∧ Hid (Gs (val (low ++ [h])) (val vs) (h * 4294967296 + u1) u2 v1 v2 (4294967296 ^ (n - 2)) G R)) (fun s7 _ _ => (intOf s7).toNat)
  case atStart => exact ⟨G0, R0, val_i htd, val_i htm, hG0, by omega, (by repeat (first | assumption | refine LB.drew ?_ | refine LB.drewN ?_ _ | refine LB.alloc ?_ _ | refine LB.far ?_ hne _ _)), (by repeat (first | assumption | refine LB.drew ?_ | refine LB.drewN ?_ _ | refine LB.alloc ?_ _ | refine LB.far ?_ hne _ _)), (by repeat (first | exact hgr | exact World.grownBy.refl _ _ | refine only_drew ?_ | refine only_drewN ?_ _ | refine only_setCell ?_ _ _ | refine only_alloc ?_ _)), HG⟩
  case round =>
   obtain ⟨G, R, rfl, rfl, hGb, hRb, hL, hV, hgr, hgs⟩ := hrel
   have cU2 := mid_cell hL HJ.out.1 HJ.out.2.1 (show n - 2 < n by omega)
   have cV1 := v_cell hV HJ.out.2.2 (show n - 1 < n by omega)
   have cV2 := v_cell hV HJ.out.2.2 (show n - 2 < n by omega)
   rw [HU.out.2.1] at cU2
   rw [HU.out.2.2.1] at cV1
   rw [HU.out.2.2.2] at cV2
   have hor2 := or32 R u2 hRb o2
   by_cases hGB : 4294967296 ≤ G
   ·have t1 : ((G : Int) / 4294967296 != 0) = true := by simp; omega
    obtain ⟨g0, gd⟩ := hgs.out.down hV0 HQ.out (.inl hGB)
    have GD := hid gd
    clear gd
    by_cases hbr : 4294967296 ≤ R + v1
    ·have t3 : (((R : Int) + (v1 : Int)) / 4294967296 != 0) = true := by simp; omega
     have gsm := GD.out.small htop hbr
     have ge := GD.out
     have gend := hid (guess_end ge.S hV0 (by omega) o4 o2 ge.eq gsm ge.hi (.inr hbr))
     clear ge
     go_wp2
     go_quiet (fail)
     go_wp2_with fail
     go_meet
     exact ⟨G - 1, val_i (by omega), gsm, (by repeat (first | assumption | refine LB.drew ?_ | refine LB.drewN ?_ _ | refine LB.alloc ?_ _ | refine LB.far ?_ hne _ _)), (by repeat (first | assumption | refine LB.drew ?_ | refine LB.drewN ?_ _ | refine LB.alloc ?_ _ | refine LB.far ?_ hne _ _)), (by repeat (first | exact hgr | exact World.grownBy.refl _ _ | refine only_drew ?_ | refine only_drewN ?_ _ | refine only_setCell ?_ _ _ | refine only_alloc ?_ _)), gend⟩
    ·have t3 : (((R : Int) + (v1 : Int)) / 4294967296 != 0) = false := by simp; omega
     go_wp2
     go_quiet (fail)
     go_wp2_with fail
     go_roundw
     case rel => exact ⟨G - 1, R + v1, val_i (by omega), val_i (by omega), by omega, by omega, (by repeat (first | assumption | refine LB.drew ?_ | refine LB.drewN ?_ _ | refine LB.alloc ?_ _ | refine LB.far ?_ hne _ _)), (by repeat (first | assumption | refine LB.drew ?_ | refine LB.drewN ?_ _ | refine LB.alloc ?_ _ | refine LB.far ?_ hne _ _)), (by repeat (first | exact hgr | exact World.grownBy.refl _ _ | refine only_drew ?_ | refine only_drewN ?_ _ | refine only_setCell ?_ _ _ | refine only_alloc ?_ _)), GD⟩
     case measure => simp [intOf]; omega
   ·have t1 : ((G : Int) / 4294967296 != 0) = false := by simp; omega
    obtain ⟨p0, p1⟩ := prod_bd G v2 (by omega) o4
    by_cases htest : R * 4294967296 + u2 < G * v2
    ·have t2 : decide ((R : Int) * 4294967296 + (u2 : Int) < (G : Int) * (v2 : Int)) = true := by
      rw [← Int.natCast_mul]; simp only [decide_eq_true_eq]; omega
     obtain ⟨g0, gd⟩ := hgs.out.down hV0 HQ.out (.inr htest)
     have GD := hid gd
     clear gd
     by_cases hbr : 4294967296 ≤ R + v1
     ·have t3 : (((R : Int) + (v1 : Int)) / 4294967296 != 0) = true := by simp; omega
      have gsm := GD.out.small htop hbr
      have ge := GD.out
      have gend := hid (guess_end ge.S hV0 (by omega) o4 o2 ge.eq gsm ge.hi (.inr hbr))
      clear ge
      go_wp2
      go_quiet (fail)
      go_wp2_with fail
      go_meet
      exact ⟨G - 1, val_i (by omega), gsm, (by repeat (first | assumption | refine LB.drew ?_ | refine LB.drewN ?_ _ | refine LB.alloc ?_ _ | refine LB.far ?_ hne _ _)), (by repeat (first | assumption | refine LB.drew ?_ | refine LB.drewN ?_ _ | refine LB.alloc ?_ _ | refine LB.far ?_ hne _ _)), (by repeat (first | exact hgr | exact World.grownBy.refl _ _ | refine only_drew ?_ | refine only_drewN ?_ _ | refine only_setCell ?_ _ _ | refine only_alloc ?_ _)), gend⟩
     ·have t3 : (((R : Int) + (v1 : Int)) / 4294967296 != 0) = false := by simp; omega
      go_wp2
      go_quiet (fail)
      go_wp2_with fail
      go_roundw
      case rel => exact ⟨G - 1, R + v1, val_i (by omega), val_i (by omega), by omega, by omega, (by repeat (first | assumption | refine LB.drew ?_ | refine LB.drewN ?_ _ | refine LB.alloc ?_ _ | refine LB.far ?_ hne _ _)), (by repeat (first | assumption | refine LB.drew ?_ | refine LB.drewN ?_ _ | refine LB.alloc ?_ _ | refine LB.far ?_ hne _ _)), (by repeat (first | exact hgr | exact World.grownBy.refl _ _ | refine only_drew ?_ | refine only_drewN ?_ _ | refine only_setCell ?_ _ _ | refine only_alloc ?_ _)), GD⟩
      case measure => simp [intOf]; omega
    ·have t2 : decide ((R : Int) * 4294967296 + (u2 : Int) < (G : Int) * (v2 : Int)) = false := by
      rw [← Int.natCast_mul]; simp only [decide_eq_false_iff_not]; omega
     have ge := hgs.out
     have gend := hid (guess_end ge.S hV0 (by omega) o4 o2 ge.eq (by omega) ge.hi (.inl (by omega)))
     clear ge
     go_wp2
     go_quiet (fail)
     go_wp2_with fail
     go_meet
     exact ⟨G, rfl, by omega, (by repeat (first | assumption | refine LB.drew ?_ | refine LB.drewN ?_ _ | refine LB.alloc ?_ _ | refine LB.far ?_ hne _ _)), (by repeat (first | assumption | refine LB.drew ?_ | refine LB.drewN ?_ _ | refine LB.alloc ?_ _ | refine LB.far ?_ hne _ _)), (by repeat (first | exact hgr | exact World.grownBy.refl _ _ | refine only_drew ?_ | refine only_drewN ?_ _ | refine only_setCell ?_ _ _ | refine only_alloc ?_ _)), gend⟩
 case rest =>
  obtain ⟨G, rfl, hGb, hL1, hV1, hgr1, hGq⟩ := hcut
  clear hL hV cU0 cU1 cV1 hor1 htd htm hrl hG0 HG HU
  go_wp2_with fail
  go_loopw [9, 10, 88] (fun s9 s10 s88 wr => ∃ (i c d : Nat) (L : List Nat), i ≤ n ∧ s88 = .int .i64 i ∧ s9 = .int .u64 c ∧ s10 = .int .u64 d ∧ c < 4294967296 ∧ d ≤ 1 ∧ LB wr g L ∧ LB wr hv (vs ++ Z) ∧ w.grownBy wr (some g) ∧ SubMAt G Pre low Q vs h i c d L) (fun _ _ s88 _ => n - (intOf s88).toNat)
  case atStart => exact ⟨0, 0, 0, _, by omega, rfl, rfl, rfl, by omega, by omega, hL1, hV1, hgr1, .start _ _ _ _ _ _⟩
  case round =>
   obtain ⟨i, c, d, L, hi, rfl, rfl, rfl, hc, hd, hL, hV, hgr, hat⟩ := hrel
   clear hL1 hV1 hgr1
   by_cases hin : i < n
   ·have c1 := hat.cell hL HJ.out.1 HJ.out.2.1 hin
    have f1 := hL.free (j + i)
    have c2 := v_cell hV HJ.out.2.2 hin
    have b1 : low.getD i 0 < 4294967296 := by rw [gd (by have := HJ.out.2.1; omega)]; exact okl.get _
    have b2 : vs.getD i 0 < 4294967296 := by rw [gd (by have := HJ.out.2.2; omega)]; exact okv.get _
    have hst := hat.step HJ.out.1 HJ.out.2.1 HJ.out.2.2 hin
    generalize low.getD i 0 = y at *
    generalize vs.getD i 0 = x at *
    obtain ⟨p0, p1⟩ := prod_bd G x hGb b2
    have hp : (G : Int) * (x : Int) = ((G * x : Nat) : Int) := (Int.natCast_mul _ _).symm
    rw [hp] at p0 p1
    generalize G * x = P0 at *
    go_wp2
    go_roundw
    case rel => exact ⟨i + 1, (P0 + c) / 4294967296, _, _, by omega, by go_num, by go_num, val_i (subm_hi _ _ _ _ b1 hd), by omega, ite_le1 _, hL.set_ _ _ _ (subm_lo _ _ _ _ b1 hd), (by repeat (first | assumption | refine LB.drew ?_ | refine LB.drewN ?_ _ | refine LB.alloc ?_ _ | refine LB.far ?_ hne _ _)), (by repeat (first | exact hgr | exact World.grownBy.refl _ _ | refine only_drew ?_ | refine only_drewN ?_ _ | refine only_setCell ?_ _ _ | refine only_alloc ?_ _)), hst⟩
    case measure => simp [intOf]; omega
   ·obtain rfl : i = n := by omega
    have c1 := hat.top hL HJ.out.1 HJ.out.2.1 (Nat.le_refl _)
    have f1 := hL.free (j + i)
    obtain ⟨hLe, hcd⟩ := hat.last HJ.out.2.1 HJ.out.2.2
    have hms : (subM G vs low 0 0).1.length = i := by rw [length_subM _ _ _ _ _ (by rw [HJ.out.2.1, HJ.out.2.2]), HJ.out.2.2]
    have hspec := hid (stepL_spec (g := G) (h := h) (v := vs) (low := low) (by rw [HJ.out.2.1, HJ.out.2.2]) okl okh okv hGb hV0 hGq.out)
    have HL := hid hLe
    have HC := hid hcd
    clear hLe hcd
    by_cases hcd : c + d ≤ h
    ·have t1 : (((h : Int) - (c : Int) - (d : Int)) / 9223372036854775808 == 0) = true := by simp; omega
     go_wp2
     go_ret
     have hsp := hspec.out
     unfold stepL at hsp
     simp only [HC.out, if_pos hcd] at hsp
     obtain ⟨s1, s2, s3, s4, s5⟩ := hsp
     refine ⟨(subM G vs low 0 0).1, ret_int (by rw [← s1]), ?_, (by repeat (first | exact hgr | exact World.grownBy.refl _ _ | refine only_drew ?_ | refine only_drewN ?_ _ | refine only_setCell ?_ _ _ | refine only_alloc ?_ _)), s2, hms, s4⟩
     have hz := hL.set_ (j + i) ((h : Int) - c - d) (h - c - d) (by omega)
     rw [HL.out, set_top HJ.out.1 hms, s3] at hz
     exact hz
    ·have hlt : h < c + d := by omega
     have t1 := subh_hi h c d okh hc hd hlt
     have hG1 := subM_pos (v := vs) (low := low) (by rw [HJ.out.2.1, HJ.out.2.2]) okl HC.out hlt
     have hlo := subh_lo h c d okh hc hd
     have hz := hL.set_ (j + i) _ _ hlo
     have hsp := hspec.out
     unfold stepL at hsp
     simp only [HC.out, if_neg hcd] at hsp
     obtain ⟨s1, s2, s3, s4, s5⟩ := hsp
     rw [HL.out, set_top HJ.out.1 hms] at hz
     have okM := ok_subM G vs low 0 0
     clear hspec HC HL hat
     generalize (subM G vs low 0 0).1 = M at *
     generalize hh : (h + 18446744073709551616 - c - d) % 4294967296 = h' at *
     have hh' : h' < 4294967296 := by omega
     have HS := hid (And.intro s1 (And.intro s2 (And.intro s3 (And.intro s4 (And.intro s5 (And.intro hms okM))))))
     have HH := hid hh
     clear s1 s2 s3 s4 s5 hms okM hh hlo
     go_wp2_with fail
     go_loopw [9, 141] (fun s9 s141 wr => ∃ (k e : Nat) (L : List Nat), k ≤ i ∧ s141 = .int .i64 k ∧ s9 = .int .u64 e ∧ e ≤ 1 ∧ LB wr g L ∧ LB wr hv (vs ++ Z) ∧ w.grownBy wr (some g) ∧ AddBAt Pre M Q vs h' k e L) (fun _ s141 _ => i - (intOf s141).toNat)
     case atStart => exact ⟨0, 0, _, by omega, rfl, rfl, by omega, hz, (by repeat (first | assumption | refine LB.drew ?_ | refine LB.drewN ?_ _ | refine LB.alloc ?_ _ | refine LB.far ?_ hne _ _)), (by repeat (first | exact hgr | exact World.grownBy.refl _ _ | refine only_drew ?_ | refine only_drewN ?_ _ | refine only_setCell ?_ _ _ | refine only_alloc ?_ _)), .start _ _ _ _ _⟩
     case round =>
      obtain ⟨k, e, L, hk, rfl, rfl, he, hL, hV, hgr, hat⟩ := hrel
      clear hz c1 f1
      by_cases hki : k < i
      ·have c1 := hat.cell hL HJ.out.1 HS.out.2.2.2.2.2.1 hki
       have f1 := hL.free (j + k)
       have c2 := v_cell hV HJ.out.2.2 hki
       have b1 : M.getD k 0 < 4294967296 := by rw [gd (by have := HS.out.2.2.2.2.2.1; omega)]; exact HS.out.2.2.2.2.2.2.get _
       have b2 : vs.getD k 0 < 4294967296 := by rw [gd (by have := HJ.out.2.2; omega)]; exact okv.get _
       have hst := hat.step HJ.out.1 HS.out.2.2.2.2.2.1 HJ.out.2.2 hki
       generalize M.getD k 0 = y at *
       generalize vs.getD k 0 = x at *
       go_wp2
       go_roundw
       case rel => exact ⟨k + 1, (y + x + e) / 4294967296, _, by omega, by go_num, by go_num, by omega, hL.set_ _ _ ((y + x + e) % 4294967296) (by omega), (by repeat (first | assumption | refine LB.drew ?_ | refine LB.drewN ?_ _ | refine LB.alloc ?_ _ | refine LB.far ?_ hne _ _)), (by repeat (first | exact hgr | exact World.grownBy.refl _ _ | refine only_drew ?_ | refine only_drewN ?_ _ | refine only_setCell ?_ _ _ | refine only_alloc ?_ _)), hst⟩
       case measure => simp [intOf]; omega
      ·obtain rfl : k = i := by omega
       have c1 := hat.top hL HJ.out.1 HS.out.2.2.2.2.2.1 (Nat.le_refl _)
       have f1 := hL.free (j + k)
       obtain ⟨hLe, hee⟩ := hat.last HS.out.2.2.2.2.2.1 HJ.out.2.2
       have HL2 := hid hLe
       have HE := hid hee
       clear hLe hee
       have hbl : (addB vs M 0).1.length = k := by rw [length_addB _ _ _ (by rw [HJ.out.2.2, HS.out.2.2.2.2.2.1]), HJ.out.2.2]
       have HBL := hid hbl
       clear hbl
       go_wp2
       go_ret
       obtain ⟨s1, s2, s3, s4, s5, hms, okM⟩ := HS.out
       have h3 := HH.out
       rw [HE.out] at s3
       refine ⟨(addB vs M 0).1, ret_int (by rw [← s1]; omega), ?_, (by repeat (first | exact hgr | exact World.grownBy.refl _ _ | refine only_drew ?_ | refine only_drewN ?_ _ | refine only_setCell ?_ _ _ | refine only_alloc ?_ _)), s2, HBL.out, s4⟩
       have hz := hL.set_ (j + k) (IntKind.u32.wrap ((h' : Int) + e)) ((h' + e) % 4294967296) (by rw [IntKind.wrap_u32']; omega)
       rw [HL2.out, set_top HJ.out.1 HBL.out, show (h' + e) % 4294967296 = 0 by omega] at hz
       exact hz
end Go.Proofs.YtfdmlfpldgobjaaGreatDoor
/- Package barscan/fraction: the walks of its natural numbers (the same Go text as those of barscan/bigint). Conditions: none. -/
namespace Go.Proofs.YtfdmlfpldgobjaaGreatDoor
open Go.RowKit Big
theorem Frcompare_lt (A B : Option Addr) (c d : Nat) (xs ys : List Nat) (w : World) (ha : Mg w A c xs) (hb : Mg w B d ys) (na : Nrm xs) (nb : Nrm ys) (h : val xs < val ys) :
  Calls Tryz.prog 54 #[.slice A xs.length c, .slice B ys.length d] w fun e w' => e = .returned (.int .i64 (-1)) ∧ Below w.heap.size w w' :=
 (Frcompare_any A B c d xs ys w ha hb na nb).mono fun e w' ⟨h1, h2⟩ => ⟨by rw [h1, ord_lt h], h2⟩
theorem Frcompare_ge (A B : Option Addr) (c d : Nat) (xs ys : List Nat) (w : World) (ha : Mg w A c xs) (hb : Mg w B d ys) (na : Nrm xs) (nb : Nrm ys) (h : val ys ≤ val xs) :
  Calls Tryz.prog 54 #[.slice A xs.length c, .slice B ys.length d] w fun e w' => ∃ o : Int, e = .returned (.int .i64 o) ∧ 0 ≤ o ∧ o ≤ 1 ∧ Below w.heap.size w w' :=
 (Frcompare_any A B c d xs ys w ha hb na nb).mono fun e w' ⟨h1, h2⟩ => ⟨_, h1, by unfold ord; split <;> (try split) <;> omega, by unfold ord; split <;> (try split) <;> omega, h2⟩
theorem FrshiftLeft_len (A : Option Addr) (c n : Nat) (xs : List Nat) (w : World) (ha : Mg w A c xs) (hn : n ≤ 31) (hs : xs.length ≤ 1073741824) :
  Calls Tryz.prog 87 #[.slice A xs.length c, .int .i64 n] w fun e w' => ∃ g, w.heap.size ≤ g ∧ e = .returned (.slice (some ⟨g, 0, none⟩) (xs.length + 1) (xs.length + 1)) ∧ LB w' g (shl (2 ^ n) xs 0) ∧ Below w.heap.size w w' :=
 (FrshiftLeft_any A c n xs w ha hn hs).mono fun e w' ⟨g, h1, h2, h3, h4⟩ => ⟨g, h1, by rw [h2, length_shl], h3, h4⟩
set_option maxHeartbeats 1000000 in
theorem Frdivide_lt (A B : Option Addr) (c d : Nat) (xs ys : List Nat) (w : World) (ha : Mg w A c xs) (hb : Mg w B d ys) (na : Nrm xs) (nb : Nrm ys) (h : val xs < val ys) (hs : xs.length ≤ 1073741824) :
  Calls Tryz.prog 57 #[.slice A xs.length c, .slice B ys.length d] w (RetQRn w (val xs / val ys) (val xs % val ys)) := by
 have h0 : val xs / val ys = 0 := Nat.div_eq_of_lt h
 have h1 : val xs % val ys = val xs := Nat.mod_eq_of_lt h
 rw [h0, h1]
 have H := hid h
 clear h h0 h1
 go_enter Tryz.func57, Tryz.ntmps57
 go_wp2_with (first | (go_at_call 54; refine (Frcompare_lt _ _ _ _ _ _ _ ha hb na nb H.out).mono ?_; rintro e w1 ⟨rfl, hb1⟩) | (at_builtin; refine wpList_app rfl (.const (.slice none 0 0)) (.tmp 16) 22 rfl 61 (.int .u32 0) 4 Tryz.underlying22 info32 rfl w.heap.size lim (fun _ => rfl) _ [] rfl (World.ownsRow_nil _ _ _ _) A c xs rfl (ha.rd.below hb1) (by simp; omega) (by simp; omega) hb1.size ?_; intro v' w2 hown hgr hwh))
 obtain ⟨R, cc, rfl, hm⟩ := own_mg hown ha.ok
 go_wp2
 go_ret2
 have hl : limbs (val xs) = xs := limbs_val ha.ok na
 refine ⟨none, 0, R, cc, by rw [hl, limbs_zero]; rfl, ⟨by simp [limbs_zero], by omega, ok_limbs _, by rw [limbs_zero]; exact Rd.nil _ _⟩, by rw [hl]; exact hm, ?_⟩
 exact ⟨hb1.trans (below_app (World.ownsRow_nil w1 w.heap.size 61 1) hgr hb1.size), Nw.nil⟩
set_option maxHeartbeats 1000000 in
theorem Frdivide_one (A : Option Addr) (b o c d t : Nat) (xs : List Nat) (w : World) (ha : Mg w A c xs) (hb : Mg w (some ⟨b, o, none⟩) d [t]) (na : Nrm xs) (ht : t ≠ 0) (h : t ≤ val xs) (hs : xs.length ≤ 1073741824) :
  Calls Tryz.prog 57 #[.slice A xs.length c, .slice (some ⟨b, o, none⟩) 1 d] w (RetQRn w (val xs / t) (val xs % t)) := by
 have nb : Nrm [t] := by simp [Nrm, ht]
 have hcmp := Frcompare_ge A (some ⟨b, o, none⟩) c d xs [t] w ha hb na nb (by simpa [val] using h)
 have ot := hb.ok.head
 have ho : ∃ b' o', (some ⟨b, o, none⟩ : Option Addr) = some ⟨b', o', none⟩ ∧ b' < w.heap.size ∧ ∀ j (h : j < [t].length), w.cell? ⟨b', o' + j, none⟩ = some (lim [t][j]) := hb.rd (by simp)
 obtain ⟨b', o', he, hbs, hc⟩ := ho
 injection he with he
 injection he with e1 e2
 subst e1; subst e2
 have c1 := hc 0 (by simp)
 unfold lim at c1
 simp only [List.getElem_cons_zero, Nat.add_zero] at c1
 have HC := hid hcmp
 have H0 := hid (Nat.pos_of_ne_zero ht)
 have hm := Nat.mod_lt (val xs) (Nat.pos_of_ne_zero ht)
 have hd := fun (w1 : World) (hb1 : Below w.heap.size w w1) => FrdivideSmall_nw A c xs t w1 (ha.below hb1) H0.out ot hs
 have hrb : val xs % t ≤ 4294967295 := by omega
 generalize val xs % t = rm at *
 have HD := hid hd
 clear hc hcmp h ht hb nb hd hm
 go_enter Tryz.func57, Tryz.ntmps57
 go_wp2_with (first | (go_at_call 54; refine (HC.out).mono ?_; rintro e w1 ⟨ov, rfl, o0, o1, hb1⟩; obtain ⟨hc1, hf1⟩ := bcell hb1) | (go_at_call 85; refine (HD.out _ hb1).mono ?_; rintro e w2 ⟨⟨cc, rfl, hr1, hr2⟩, hr5⟩))
 go_wp2_with (go_at_call 84; refine (FrfromWord_any rm _ (by omega)).mono ?_; rintro e w3 ⟨R3, cc3, rfl, hr3, hr4⟩)
 go_ret2
 exact ⟨_, cc, R3, cc3, rfl, hr1.below hr4, hr3, hb1.trans ((hr2.mono hb1.size).trans (hr4.mono (Nat.le_trans hb1.size hr2.size))), (hr5.out.below hr4).mono hb1.size⟩
set_option maxRecDepth 100000 in
set_option maxHeartbeats 2000000 in
theorem Frdivide_big (A B : Option Addr) (c d n m : Nat) (xs ys : List Nat) (w : World) (ha : Mg w A c xs) (hb : Mg w B d ys) (na : Nrm xs) (nb : Nrm ys) (hn : ys.length = n) (h2 : 2 ≤ n) (hm : xs.length + 1 = m + n) (hm0 : 0 < m) (h : val ys ≤ val xs) (hs : xs.length ≤ 1073741823) :
  Calls Tryz.prog 57 #[.slice A xs.length c, .slice B n d] w (RetQRn w (val xs / val ys) (val xs % val ys)) := by
 subst hn
 have hcmp := Frcompare_ge A B c d xs ys w ha hb na nb h
 have hne : ys ≠ [] := by intro h0; subst h0; simp at h2
 obtain ⟨t, hlast, ht0⟩ := nrm_last nb hne
 have htl : t = ys.getD (ys.length - 1) 0 := by
  rw [List.getLast?_eq_getElem?] at hlast
  rw [List.getD_eq_getElem?_getD, hlast]; rfl
 have htB : t < 4294967296 := hb.ok t (List.mem_of_getLast? hlast)
 obtain ⟨s1, s2, s3, s4⟩ := norm_shift ht0 htB
 have hlz := fun w1 => lz_any t w1 htB
 have hsh : 32 - Lib.bitLen t ≤ 31 := by omega
 generalize hse : 32 - Lib.bitLen t = s at *
 obtain ⟨vs, hv1, hv2, hv3⟩ := shl_last ys 0 t hlast s3
 have hvv : val vs = val ys * 2 ^ s := by
  have := val_shl (2 ^ s) ys 0
  rw [hv1, val_snoc_zero] at this
  simpa using this
 obtain ⟨pw0, pw1, pw2⟩ := pow_cases hsh
 have hov : Ok vs := by
  have := ok_shl (2 ^ s) ys 0 (2 ^ (32 - s)) pw2 hb.ok pw0
  rw [hv1] at this; exact this.left
 have hou : Ok (shl (2 ^ s) xs 0) := ok_shl (2 ^ s) xs 0 (2 ^ (32 - s)) pw2 ha.ok pw0
 have hul : (shl (2 ^ s) xs 0).length = m + ys.length := by rw [length_shl]; exact hm
 have huv : val (shl (2 ^ s) xs 0) = val xs * 2 ^ s := by rw [val_shl]; rfl
 have hypos : 0 < val ys := val_pos nb hne
 have hstart : val ((shl (2 ^ s) xs 0).drop m) < val vs := by
  have e1 := val_append ((shl (2 ^ s) xs 0).take m) ((shl (2 ^ s) xs 0).drop m)
  rw [List.take_append_drop, huv, List.length_take, show min m (shl (2 ^ s) xs 0).length = m by omega] at e1
  have e2 := val_lt_pow ha.ok
  have e3 := val_ge_pow nb hne
  have e4 : 4294967296 ^ xs.length = 4294967296 ^ m * 4294967296 ^ (ys.length - 1) := by rw [← Nat.pow_add]; congr 1; omega
  rw [hvv]
  refine Nat.lt_of_mul_lt_mul_left (a := 4294967296 ^ m) ?_
  have e5 : val xs * 2 ^ s < 4294967296 ^ m * 4294967296 ^ (ys.length - 1) * 2 ^ s := by
   rw [← e4]; exact Nat.mul_lt_mul_of_pos_right e2 pw0
  have e6 : 4294967296 ^ m * 4294967296 ^ (ys.length - 1) * 2 ^ s ≤ 4294967296 ^ m * (val ys * 2 ^ s) := by
   rw [Nat.mul_assoc]
   exact Nat.mul_le_mul_left _ (Nat.mul_le_mul_right _ e3)
  omega
 have hlong := LongAt.start hou hul hstart
 have hshl := fun (w1 : World) (h1 : Below w.heap.size w w1) => FrshiftLeft_len B d s ys w1 (hb.below h1) hsh (by omega)
 have hshu := fun (w1 : World) (h1 : Below w.heap.size w w1) => FrshiftLeft_len A c s xs w1 (ha.below h1) hsh (by omega)
 rw [hv1] at hshl
 generalize hus : shl (2 ^ s) xs 0 = us at *
 have hmk := make32 m (by omega)
 rw [show (m : Int) = (xs.length : Int) - (ys.length : Int) + 1 by omega] at hmk
 have c1 : ∃ b o, B = some ⟨b, o, none⟩ ∧ b < w.heap.size ∧ w.cell? ⟨b, o + (ys.length - 1), none⟩ = some (.int .u32 t) := by
  obtain ⟨b, o, e, hbs, hc⟩ := hb.rd.at_ (k := ys.length - 1) (by omega)
  refine ⟨b, o, e, hbs, ?_⟩
  rw [hc (ys.length - 1) (by omega)]
  unfold lim
  rw [htl, gd (by omega : ys.length - 1 < ys.length)]
 obtain ⟨bb, ob, rfl, hbs, c1⟩ := c1
 have HC := hid hcmp
 have HLZ := hid hlz
 have HSL := hid hshl
 have HSU := hid hshu
 have HLO := hid hlong
 have HV := hid (And.intro hvv (And.intro hv2 (And.intro hov (And.intro hou (And.intro huv (And.intro hul hypos))))))
 have HT := hid (And.intro (And.intro s2 hv3) pw0)
 have HN := hid (And.intro na nb)
 have HM := hid hm
 have hmb : m ≤ 1073741824 := by omega
 have hyl : ys.length ≤ 1073741824 := by omega
 have hyx : ys.length ≤ xs.length := by omega
 clear hcmp hlz hshl hshu hlong hvv hv1 hv2 hv3 hov hou huv hul hypos hstart hus hse s1 s2 s3 s4 htl hlast ht0 hne pw0 pw1 pw2 na nb h hm
 go_enter Tryz.func57, Tryz.ntmps57
 go_wp2_with fail
 refine (HC.out).mono ?_
 rintro e w1 ⟨ov, rfl, o0, o1, hb1⟩
 obtain ⟨hc1, hf1⟩ := bcell hb1
 go_wp2_with fail
 refine (HLZ.out _).mono ?_
 rintro e w2 ⟨rfl, rfl⟩
 go_wp2_with fail
 refine (HSL.out _ hb1).mono ?_
 rintro e w2 ⟨gv, hgv, rfl, hLv, hb2⟩
 go_wp2_with fail
 refine (HSU.out _ (hb1.trans (hb2.mono hb1.size))).mono ?_
 rintro e w3 ⟨gu, hgu, rfl, hLu, hb3⟩
 go_wp2_with fail
 have z1 := hb1.size
 have z2 := hb2.size
 have z3 := hb3.size
 have l1 := hLu.lt
 have l2 := hLv.lt
 have hbl3 : Below w.heap.size w w3 := hb1.trans ((hb2.mono z1).trans (hb3.mono (by omega)))
 have hLv3 : LB w3 gv (vs ++ [0]) := hLv.below hb3 hLv.lt
 have hvn : gv ≠ gu := by omega
 clear hc1 hf1 c1 HC HLZ HSL HSU hb1 hb2 hb3 hLv
 go_loopw [11] (fun i wr => ∃ (k : Nat) (U qs : List Nat), k ≤ m ∧ i = .int .i64 ((k : Int) - 1) ∧ Below w.heap.size w wr ∧ LB wr gu U ∧ LB wr gv (vs ++ [0]) ∧ LB wr w3.heap.size qs ∧ LongAt us (val vs) ys.length m k U qs) (fun i _ => (intOf i + 1).toNat)
 case atStart => exact ⟨m, us, _, Nat.le_refl _, rfl, hbl3.alloc (by omega) _, hLu.alloc _, hLv3.alloc _, LB.made w3 m, HLO.out⟩
 case round =>
  obtain ⟨k, U, qs, hk, rfl, hbl, hLU, hLV, hLQ, hat⟩ := hrel
  obtain ⟨hvv, hv2, hov, hou, huv, hul, hypos⟩ := HV.out
  have hwz := hbl.size
  by_cases hk0 : 0 < k
  ·obtain ⟨low, tt, Q, w1, w2, w3', w4, w5, w6⟩ := hat.window hou hk0 (by omega) hk (by omega)
   have hVpos : 0 < val vs := by rw [hvv]; exact Nat.mul_pos hypos HT.out.2
   have htk : (us.take (k - 1)).length = k - 1 := by simp; omega
   have hqs : qs.length = m := by obtain ⟨_, qq, _, _, _, _, q1, q2, _⟩ := hat.ex; rw [q1]; simp [q2]; omega
   rw [w1] at hLU
   have hstep := fun cu cv => Frstep_any gu (k - 1) gv ys.length cu cv tt (us.take (k - 1)) low Q vs [0] wr hLU hLV hvn htk w2 hv2 h2 w3' hov w4 (Nat.le_trans HT.out.1.1 HT.out.1.2) w5 hyl (by omega)
   obtain ⟨vq, cq⟩ : ∃ vq : Nat, wr.cell? ⟨w3.heap.size, k - 1, none⟩ = some (.int .u32 (vq : Int)) := ⟨_, hLQ.cell (k - 1) (by omega)⟩
   have fq := hLQ.free (k - 1)
   have hql := hLQ.lt
   have hqu := fun rem' r1 r2 r3 => w6 rem' r1 r2 r3 hVpos
   have hbk : k + ys.length ≤ xs.length + 1 := by have := HM.out; omega
   have HS := hid hstep
   have HQ := hid hqu
   clear hstep hqu w1 w2 w3' w4 w5 w6 hvv hv2 hov hou huv hul hypos hqs htk hVpos
   generalize val (low ++ [tt]) / val vs = qd at *
   go_wp2_with fail
   rw [show k - 1 + ys.length + 1 - (k - 1) = ys.length + 1 by omega]
   refine (HS.out _ _).mono ?_
   rintro e w4 ⟨rem, rfl, hLU2, hgr, r1, r2, r3⟩
   have hLQ2 := hLQ.grown hgr (by omega)
   have hLV2 := hLV.grown hgr hvn
   have cq2 : w4.cell? ⟨w3.heap.size, k - 1, none⟩ = some (.int .u32 (vq : Int)) := (World.cell?_of_block (hgr.block w3.heap.size hql (by simp; omega))).trans cq
   have fq2 := hLQ2.free (k - 1)
   have hl4 := HQ.out rem r2 r3 r1
   have hgr4 : Below w.heap.size w w4 := hbl.grown hgr hwz (fun j hj => by cases hj; omega)
   clear HS HQ hLU hLV hLQ hat hgr cq fq
   go_wp2
   go_roundw
   case rel => exact ⟨k - 1, _, _, by omega, by go_num, (by repeat (first | exact hgr4 | refine Below.drew ?_ | refine below_drewN ?_ _ | refine Below.setCell ?_ (by simp; omega) _ | refine Below.alloc ?_ (by simp; omega) _)), (by repeat (first | exact hLU2 | refine LB.drew ?_ | refine LB.far ?_ (by omega) _ _)), (by repeat (first | exact hLV2 | refine LB.drew ?_ | refine LB.far ?_ (by omega) _ _)), hLQ2.set_ _ _ _ rfl, hl4⟩
   case measure => simp [intOf]; omega
  ·obtain rfl : k = 0 := by omega
   have hat2 := hat
   rw [hvv] at hat2
   obtain ⟨f1, f2, f3, f4, f5⟩ := LongAt_end hat2 huv HT.out.2 hypos
   have hUl : U.length = xs.length + 1 := by
    obtain ⟨rem, qq, q1, q2, _⟩ := hat.ex
    have := HM.out
    rw [q1]; simp [q2]; omega
   have hmq := hLQ.mg f3 (by omega)
   have hmu := hLU.mg f4 (by omega)
   have hnq := hid (hLQ.nw (B := w.heap.size) (by omega))
   have htr := Frtrim_at _ _ _ _ hmq
   have hsr := fun (w5 : World) (h5 : Below wr.heap.size wr w5) => FrshiftRight_any _ _ s U w5 (hmu.below h5) hsh (by omega)
   rw [f5, f1] at htr
   rw [hUl, f2] at hsr
   have HTR := hid htr
   have HSR := hid hsr
   clear f1 f2 f3 f4 f5 hUl hmq hmu htr hsr hvv hv2 hov hou huv hul hypos hat hat2 hLU hLV hLQ
   go_wp2_with fail
   refine (HTR.out).mono ?_
   rintro e w4 ⟨cc, rfl, hr1, hr2⟩
   go_wp2_with fail
   refine (HSR.out _ hr2).mono ?_
   rintro e w5 ⟨R5, cc5, rfl, hr3, hr4⟩
   go_wp2
   go_ret2
   exact ⟨_, cc, R5, cc5, rfl, hr1.below hr4, hr3, hbl.trans ((hr2.mono hwz).trans (hr4.mono (Nat.le_trans hwz hr2.size))), (hnq.out.below hr2).below hr4⟩
theorem Frdivide_nw (A B : Option Addr) (c d : Nat) (xs ys : List Nat) (w : World) (ha : Mg w A c xs) (hb : Mg w B d ys) (na : Nrm xs) (nb : Nrm ys) (hy : ys ≠ []) (hs : xs.length ≤ 1073741823) :
  Calls Tryz.prog 57 #[.slice A xs.length c, .slice B ys.length d] w (RetQRn w (val xs / val ys) (val xs % val ys)) := by
 by_cases h : val xs < val ys
 ·exact Frdivide_lt A B c d xs ys w ha hb na nb h (by omega)
 ·have hxy : ys.length ≤ xs.length := by
   rcases Nat.lt_or_ge xs.length ys.length with h1 | h1
   ·exact absurd (val_len_lt ha.ok nb h1) h
   ·exact h1
  by_cases h1 : ys.length = 1
  ·obtain ⟨t, rfl⟩ : ∃ t, ys = [t] := by
    match ys, h1 with
    | [t], _ => exact ⟨t, rfl⟩
   obtain ⟨b, o, rfl, _⟩ := hb.rd.at_ (k := 0) (by simp)
   have ht : t ≠ 0 := by intro h0; subst h0; simp [Nrm] at nb
   have hv : val [t] = t := by simp [val]
   rw [hv] at h ⊢
   exact Frdivide_one A b o c d t xs w ha hb na ht (by omega) (by omega)
  ·have h2 : 2 ≤ ys.length := by
    have : ys.length ≠ 0 := by intro h0; exact hy (List.eq_nil_of_length_eq_zero h0)
    omega
   exact Frdivide_big A B c d ys.length (xs.length + 1 - ys.length) xs ys w ha hb na nb rfl h2 (by omega) (by omega) (by omega) hs
theorem Frdivide_any (A B : Option Addr) (c d : Nat) (xs ys : List Nat) (w : World) (ha : Mg w A c xs) (hb : Mg w B d ys) (na : Nrm xs) (nb : Nrm ys) (hy : ys ≠ []) (hs : xs.length ≤ 1073741823) :
  Calls Tryz.prog 57 #[.slice A xs.length c, .slice B ys.length d] w (RetQR w (val xs / val ys) (val xs % val ys)) := (Frdivide_nw A B c d xs ys w ha hb na nb hy hs).mono fun _ _ h => h.any
set_option maxHeartbeats 2000000 in
theorem Frdivisor_any (A B : Option Addr) (c d : Nat) (xs ys : List Nat) (w : World) (ha : Mg w A c xs) (hb : Mg w B d ys) (na : Nrm xs) (nb : Nrm ys) (hs : xs.length ≤ 1073741823) (ht : ys.length ≤ 1073741823) :
  Calls Tryz.prog 56 #[.slice A xs.length c, .slice B ys.length d] w (RetN w (Nat.gcd (val xs) (val ys))) := by
 go_enter Tryz.func56, Tryz.ntmps56
 go_wp2
 go_loopg [0, 1] (val ys) (fun g s0 s1 wr => ∃ (A1 B1 : Option Addr) (c1 d1 : Nat) (x1 y1 : List Nat), s0 = .slice A1 x1.length c1 ∧ s1 = .slice B1 y1.length d1 ∧ x1.length ≤ 1073741823 ∧ y1.length ≤ 1073741823 ∧ Below w.heap.size w wr ∧ Mg wr A1 c1 x1 ∧ Mg wr B1 d1 y1 ∧ Nrm x1 ∧ Nrm y1 ∧ Hid (g = val y1) ∧ Hid (Nat.gcd (val x1) (val y1) = Nat.gcd (val xs) (val ys)))
 case atStart => exact ⟨A, B, c, d, xs, ys, rfl, rfl, hs, ht, Below.refl _ _, ha, hb, na, nb, rfl, rfl⟩
 case round =>
  clear ha hb na nb hs ht
  obtain ⟨A1, B1, c1, d1, x1, y1, rfl, rfl, hx, hy, hbl, ha, hb, na, nb, hg, hgcd⟩ := hrel
  by_cases h0 : 0 < y1.length
  ·have hne : y1 ≠ [] := by intro h; subst h; simp at h0
   have hpos := val_pos nb hne
   by_cases h2 : x1.length ≤ 2 ∧ y1.length ≤ 2
   ·obtain ⟨h2a, h2b⟩ := h2
    obtain ⟨wo, rfl⟩ : ∃ wo : World, wo = wr := ⟨_, rfl⟩
    have hx64 : val x1 ≤ 18446744073709551615 := val_two ha.ok h2a
    have hy64 : val y1 ≤ 18446744073709551615 := val_two hb.ok h2b
    have wx := Frword_any A1 c1 x1 wo ha h2a
    have wy := fun (w5 : World) (h5 : Below wo.heap.size wo w5) => Frword_any B1 d1 y1 w5 (hb.below h5) h2b
    generalize val x1 = X at *
    generalize val y1 = Y at *
    have WX := hid wx
    have WY := hid wy
    clear wx wy
    go_wp2_with fail
    refine (WX.out).mono ?_
    rintro e w1 ⟨rfl, hb1⟩
    go_wp2_with fail
    refine (WY.out _ hb1).mono ?_
    rintro e w2 ⟨rfl, hb2⟩
    have hbl2 : Below w.heap.size w w2 := hbl.trans ((hb1.mono hbl.size).trans (hb2.mono (Nat.le_trans hbl.size hb1.size)))
    clear WX WY hb1 hb2 ha hb hbl
    go_wp2_with fail
    go_loopw [5, 6] (fun s5 s6 wr => ∃ X Y : Nat, s5 = .int .u64 X ∧ s6 = .int .u64 Y ∧ X ≤ 18446744073709551615 ∧ Y ≤ 18446744073709551615 ∧ Below w.heap.size w wr ∧ Hid (Nat.gcd X Y = Nat.gcd (val xs) (val ys))) (fun _ s6 _ => (intOf s6).toNat)
    case atStart => exact ⟨X, Y, rfl, rfl, hx64, hy64, hbl2, hgcd⟩
    case round =>
     clear hg hgcd hbl2 hpos hx64 hy64
     obtain ⟨X, Y, rfl, rfl, hX, hY, hbl, hgcd⟩ := hrel
     by_cases hy0 : 0 < Y
     ·have hm : (X : Int) % (Y : Int) = ((X % Y : Nat) : Int) := (Int.natCast_emod _ _).symm
      have hlt := Nat.mod_lt X hy0
      have hstep : Hid (Nat.gcd Y (X % Y) = Nat.gcd (val xs) (val ys)) := (gcd_step X Y).trans hgcd.out
      generalize X % Y = Z at *
      go_wp2
      go_quiet (fail)
      go_wp2_with fail
      go_roundw
      case rel => exact ⟨Y, Z, rfl, val_i hm, hY, by omega, (by repeat (first | exact hbl | refine Below.drew ?_ | refine below_drewN ?_ _ | refine Below.setCell ?_ (by exact Nat.le_refl _) _ | refine Below.alloc ?_ (by simp; omega) _)), hstep⟩
      case measure => simp [intOf, hm]; omega
     ·obtain rfl : Y = 0 := by omega
      have hG : Hid (X = Nat.gcd (val xs) (val ys)) := by have := hgcd.out; rw [Nat.gcd_zero_right] at this; exact this
      go_wp2_with (go_at_call 84; refine (FrfromWord_any X _ hX).mono ?_; rintro e w3 ⟨R3, cc3, rfl, hr3, hr4⟩)
      go_ret
      rw [← hG.out]
      exact ⟨R3, cc3, rfl, hr3, hbl.trans (hr4.mono hbl.size)⟩
   ·have HP := hid hpos
    have hdv := fun (w5 : World) (h5 : Below wr.heap.size wr w5) => Frdivide_any A1 B1 c1 d1 x1 y1 w5 (ha.below h5) (hb.below h5) na nb hne hx
    have HD := hid hdv
    clear hdv hpos
    by_cases h2a : x1.length ≤ 2
    ·have h2b : ¬ y1.length ≤ 2 := fun h => h2 ⟨h2a, h⟩
     clear h2
     go_wp2_with (go_at_call 57; refine (HD.out _ (Below.refl _ _)).mono ?_; rintro e w4 ⟨Aq, cq, Ar, cr, rfl, hq, hr, hb4⟩)
     go_roundg (val x1 % val y1)
     case measure => rw [hg.out]; exact Nat.mod_lt _ HP.out
     case rel => exact ⟨B1, Ar, d1, cr, y1, limbs (val x1 % val y1), rfl, rfl, hy, Nat.le_trans (limbs_mod_len hb.ok (Nat.mod_lt _ HP.out)) hy, hbl.trans (hb4.mono hbl.size), hb.below hb4, hr, nb, nrm_limbs _, (val_limbs _).symm, by unfold Hid; rw [val_limbs, gcd_step]; exact hgcd.out⟩
    ·clear h2
     go_wp2_with (go_at_call 57; refine (HD.out _ (Below.refl _ _)).mono ?_; rintro e w4 ⟨Aq, cq, Ar, cr, rfl, hq, hr, hb4⟩)
     go_roundg (val x1 % val y1)
     case measure => rw [hg.out]; exact Nat.mod_lt _ HP.out
     case rel => exact ⟨B1, Ar, d1, cr, y1, limbs (val x1 % val y1), rfl, rfl, hy, Nat.le_trans (limbs_mod_len hb.ok (Nat.mod_lt _ HP.out)) hy, hbl.trans (hb4.mono hbl.size), hb.below hb4, hr, nb, nrm_limbs _, (val_limbs _).symm, by unfold Hid; rw [val_limbs, gcd_step]; exact hgcd.out⟩
  ·have he : y1 = [] := List.eq_nil_of_length_eq_zero (by omega)
   subst he
   have hG : Hid (val x1 = Nat.gcd (val xs) (val ys)) := by have := hgcd.out; rw [show val [] = 0 from rfl, Nat.gcd_zero_right] at this; exact this
   go_wp2_with (at_builtin; refine wpList_app rfl (.const (.slice none 0 0)) (.tmp 40) 22 rfl 61 (.int .u32 0) 4 Tryz.underlying22 info32 rfl w.heap.size lim (fun _ => rfl) _ [] rfl (World.ownsRow_nil _ _ _ _) A1 c1 x1 rfl ha.rd (by simp; omega) (by simp; omega) hbl.size ?_; intro v' w2 hown hgr hwh)
   obtain ⟨R, cc, rfl, hm⟩ := own_mg hown ha.ok
   go_wp2
   go_ret
   have hl : limbs (val x1) = x1 := limbs_val ha.ok na
   rw [← hG.out]
   exact ⟨R, cc, by rw [hl]; rfl, by rw [hl]; exact hm, hbl.trans (below_app (World.ownsRow_nil wr w.heap.size 61 1) hgr hbl.size)⟩
end Go.Proofs.YtfdmlfpldgobjaaGreatDoor
