/- Tables: slices.Index and slices.IndexFunc of bands; the closures of spansOf. Conditions: numbers up to 4096. -/
import Derived.Test.YtjfgklhifhaaoaaZTw15
set_option linter.unusedVariables false
set_option linter.unusedSimpArgs false
namespace Go.Proofs.Ytjfgklhifhaaoaa
open Go.RowKit
set_option maxRecDepth 100000 in
set_option maxHeartbeats 4000000 in
theorem Ixb_g (l : List (Int × Int)) (A : Option Addr) (c : Nat) (x : Int × Int) {w : World} (hl : BdK.Rd w A c l) :
  Calls Try.prog 55 #[.slice A l.length c, .agg #[.int .i64 x.1, .int .i64 x.2]] w (RetI w (idxP (fun b => decide (b = x)) l)) := by
 obtain ⟨n, hn⟩ : ∃ n, l.length = n := ⟨_, rfl⟩
 obtain ⟨K, hK⟩ : ∃ k, idxP (fun b => decide (b = x)) l = k := ⟨_, rfl⟩
 have hM := hid fun (j : Nat) (hj : j < n) (W : World) (hb : Below w.heap.size w W) => (hl.below hb).at_ (j := j) (by omega)
 have cc := Nat.le_trans hl.cap hl.max
 have hY := hid fun (i : Nat) (hi : i < l.length) (ht : l[i] = x) (hb : ∀ j (hj : j < l.length), j < i → l[j] ≠ x) => hK.symm.trans (idxP_at hi (decide_eq_true ht) fun j hj hji => decide_eq_false (hb j hj hji))
 have hN := hid fun (hb : ∀ j (hj : j < l.length), l[j] ≠ x) => hK.symm.trans (idxP_no fun j hj => decide_eq_false (hb j hj))
 rw [hK]
 rw [hn] at cc ⊢
 replace hn := hid hn
 clear hl hK
 obtain ⟨x0, x1⟩ := x
 dsimp only at *
 go_enter Try.func55, Try.ntmps55
 go_upto_region 1 with fail
 refine enterR (P := fun u => Code.wp _ _ _ _ u) (c := [.int .i64 x0, .int .i64 x1]) ?_
 intro u HB s0 zx hsx
 have hD := hid fun (W : World) (hb : Below u.heap.size u W) => And.intro (keep_cell hb (s0 0 _ rfl)) (keep_cell hb (s0 1 _ rfl))
 clear s0 zx hsx
 go_wp2
 go_loopw [8] (fun s8 wr => ∃ i : Nat, s8 = .int .i64 (i : Int) ∧ i ≤ n ∧ Hid (∀ j (h1 : j < l.length), j < i → l[j] ≠ (x0, x1)) ∧ Below u.heap.size u wr) (fun s8 _ => n - (intOf s8).toNat)
 case atStart => exact ⟨0, rfl, by omega, fun j _ h => by omega, Below.refl _ _⟩
 case round =>
  obtain ⟨i, rfl, hi, hA, hbu⟩ := hrel
  by_cases hin : i < n
  ·have hii : (i : Int) < (n : Int) := by omega
   have hil : i < l.length := by have := hn.out; omega
   have HBr := bel_step HB hbu
   obtain ⟨b, o, hA3, hc⟩ := hM.out i hin wr HBr
   have f0 : wr.cell? ⟨b, o + i * 2, none⟩ = some (.int .i64 l[i].1) := hc 0 _ rfl
   have f1 : wr.cell? ⟨b, o + i * 2 + 1, none⟩ = some (.int .i64 l[i].2) := hc 1 _ rfl
   subst hA3
   obtain ⟨d0, d1⟩ := hD.out wr hbu
   rw [Nat.zero_add] at d0 d1
   have hb1 := hid fun (h : l[i] = (x0, x1)) => hY.out i hil h hA.out
   have hb2 := hid fun (h : l[i] ≠ (x0, x1)) (j : Nat) (h1 : j < l.length) (hj : j < i + 1) => (show l[j] ≠ (x0, x1) from by
    by_cases e : j = i
    ·subst e; exact h
    ·exact hA.out j h1 (by omega))
   clear hc hM hA hY hN
   generalize l[i] = z at *
   obtain ⟨z0, z1⟩ := z
   dsimp only at f0 f1
   by_cases he : z0 = x0
   ·subst he
    by_cases he1 : z1 = x1
    ·subst he1
     obtain rfl := hb1.out rfl
     clear hb1 hb2 hD
     go_wp2_with fail
     go_quiet (fail)
     have hv : Below wr.heap.size wr (wr.drewN nq) := below_drewN (Below.refl _ _) _
     generalize wr.drewN nq = w3 at hv ⊢
     replace HBr := bel_step HBr hv
     clear hv d0 d1 f0 f1
     go_wp2
     go_ret
     exact ⟨rfl, HBr⟩
    ·have hA2 := hid (hb2.out (fun e => he1 (by injection e)))
     have hbx : ((z1 : Int) == x1) = false := beq_eq_false_iff_ne.2 he1
     have hbx' : ((x1 : Int) == z1) = false := beq_eq_false_iff_ne.2 (fun e => he1 e.symm)
     clear hb1 hb2
     go_wp2_with fail
     go_quiet (fail)
     have hv : Below wr.heap.size wr (wr.drewN nq) := below_drewN (Below.refl _ _) _
     generalize wr.drewN nq = w3 at hv ⊢
     replace hbu := bel_step hbu hv
     clear hv d0 d1 f0 f1
     go_wp2
     go_roundw
     case rel => exact ⟨i + 1, by go_num, by omega, hA2, hbu⟩
     case measure => simp [intOf]; omega
   ·have hA2 := hid (hb2.out (fun e => he (by injection e)))
    have hbx : ((z0 : Int) == x0) = false := beq_eq_false_iff_ne.2 he
    have hbx' : ((x0 : Int) == z0) = false := beq_eq_false_iff_ne.2 (fun e => he e.symm)
    clear hb1 hb2
    go_wp2_with fail
    go_quiet (fail)
    have hv : Below wr.heap.size wr (wr.drewN nq) := below_drewN (Below.refl _ _) _
    generalize wr.drewN nq = w3 at hv ⊢
    replace hbu := bel_step hbu hv
    clear hv d0 d1 f0 f1
    go_wp2
    go_roundw
    case rel => exact ⟨i + 1, by go_num, by omega, hA2, hbu⟩
    case measure => simp [intOf]; omega
  ·obtain rfl : n = i := by omega
   have hii : ¬ (n : Int) < (n : Int) := by omega
   obtain rfl := hN.out (fun j h1 => hA.out j h1 (by have := hn.out; omega))
   have HBr := bel_step HB hbu
   clear hM hA hY hN hD
   go_wp2
   go_ret
   exact ⟨rfl, HBr⟩
set_option maxRecDepth 100000 in
set_option maxHeartbeats 4000000 in
theorem Ifb_g (l : List (Int × Int)) (A : Option Addr) (c : Nat) (p : Int × Int → Bool) (g : Nat) (lb : Array Value) {w : World} (hl : BdK.Rd w A c l) (eg : ∀ args w, (callFunc g args).run Try.prog w = .ok (.enter g args) w)
  (hp0 : ∀ (V : World), Below w.heap.size w V → ∀ b ∈ l, Calls Try.prog g (#[.agg #[.int .i64 b.1, .int .i64 b.2]] ++ lb) V (RetB V (p b))) :
  Calls Try.prog 56 #[.slice A l.length c, .func (.func g) #[] lb] w (RetI w (idxP p l)) := by
 obtain ⟨n, hn⟩ : ∃ n, l.length = n := ⟨_, rfl⟩
 obtain ⟨K, hK⟩ : ∃ k, idxP p l = k := ⟨_, rfl⟩
 have hM := hid fun (j : Nat) (hj : j < n) (W : World) (hb : Below w.heap.size w W) => (hl.below hb).at_ (j := j) (by omega)
 have cc := Nat.le_trans hl.cap hl.max
 have hY := hid fun (i : Nat) (hi : i < l.length) (ht : p l[i] = true) (hb : ∀ j (hj : j < l.length), j < i → p l[j] = false) => hK.symm.trans (idxP_at hi ht hb)
 have hN := hid fun (hb : ∀ j (hj : j < l.length), p l[j] = false) => hK.symm.trans (idxP_no hb)
 have hp := hid fun (V : World) (hb : Below w.heap.size w V) (i : Nat) (hi : i < l.length) => hp0 V hb l[i] (List.getElem_mem hi)
 rw [hK]
 rw [hn] at cc ⊢
 replace hn := hid hn
 clear hl hK hp0
 go_enter Try.func56, Try.ntmps56
 go_wp2
 go_loopw [8] (fun s8 wr => ∃ i : Nat, s8 = .int .i64 (i : Int) ∧ i ≤ n ∧ Hid (∀ j (h1 : j < l.length), j < i → p l[j] = false) ∧ Below w.heap.size w wr) (fun s8 _ => n - (intOf s8).toNat)
 case atStart => exact ⟨0, rfl, by omega, fun j _ h => by omega, Below.refl _ _⟩
 case round =>
  obtain ⟨i, rfl, hi, hA, HB⟩ := hrel
  by_cases hin : i < n
  ·have hii : (i : Int) < (n : Int) := by omega
   have hil : i < l.length := by have := hn.out; omega
   obtain ⟨b, o, hA3, hc⟩ := hM.out i hin wr HB
   have f0 : wr.cell? ⟨b, o + i * 2, none⟩ = some (.int .i64 l[i].1) := hc 0 _ rfl
   have f1 : wr.cell? ⟨b, o + i * 2 + 1, none⟩ = some (.int .i64 l[i].2) := hc 1 _ rfl
   subst hA3
   obtain ⟨t, ht⟩ : ∃ t, p l[i] = t := ⟨_, rfl⟩
   have hcall := hid (show Calls Try.prog g (#[.agg #[.int .i64 l[i].1, .int .i64 l[i].2]] ++ lb) wr (RetB wr t) from by rw [← ht]; exact hp.out wr HB i hil)
   have hb1 := hid fun (h : t = true) => hY.out i hil (ht.trans h) hA.out
   have hb2 := hid fun (h : t = false) (j : Nat) (h1 : j < l.length) (hj : j < i + 1) => (show p l[j] = false from by
    by_cases e : j = i
    ·subst e; exact ht.trans h
    ·exact hA.out j h1 (by omega))
   clear hc hM hA hY hN ht hp
   generalize l[i] = z at *
   obtain ⟨z0, z1⟩ := z
   dsimp only at f0 f1 hcall
   go_wp2_with fail
   refine hcall.out.mono ?_
   rintro e v ⟨rfl, hv⟩
   replace HB := bel_step HB hv
   clear hcall hv f0 f1
   cases t
   ·have hA2 := hid (hb2.out (by first | rfl | trivial))
    clear hb1 hb2
    go_wp2
    go_roundw
    case rel => exact ⟨i + 1, by go_num, by omega, hA2, HB⟩
    case measure => simp [intOf]; omega
   ·obtain rfl := hb1.out (by first | rfl | trivial)
    clear hb1 hb2
    go_wp2
    go_ret
    exact ⟨rfl, HB⟩
  ·obtain rfl : n = i := by omega
   have hii : ¬ (n : Int) < (n : Int) := by omega
   obtain rfl := hN.out (fun j h1 => hA.out j h1 (by have := hn.out; omega))
   clear hM hA hY hN hp
   go_wp2
   go_ret
   exact ⟨rfl, HB⟩
theorem Sp1_g (b : Int × Int) (r : Ru) (gr : Nat) {W : World} (hr : W.rangeAt gr 0 [.bool r.v, .int .i64 r.a, .int .i64 r.t, .int .i64 r.f, .int .i64 r.o]) (hb : (0 ≤ b.1 ∧ b.1 ≤ 4096) ∧ (0 ≤ b.2 ∧ b.2 ≤ 4096)) : Calls Try.prog 57 (#[.agg #[.int .i64 b.1, .int .i64 b.2]] ++ #[.pointer (some ⟨gr, 0, none⟩)]) W (RetB W (decide (b.1 = r.f))) := by
 have k0 : (W).cell? ⟨gr, 0, none⟩ = some (.bool r.v) := hr 0 _ rfl
 have k1 : (W).cell? ⟨gr, 1, none⟩ = some (.int .i64 r.a) := hr 1 _ rfl
 have k2 : (W).cell? ⟨gr, 2, none⟩ = some (.int .i64 r.t) := hr 2 _ rfl
 have k3 : (W).cell? ⟨gr, 3, none⟩ = some (.int .i64 r.f) := hr 3 _ rfl
 have k4 : (W).cell? ⟨gr, 4, none⟩ = some (.int .i64 r.o) := hr 4 _ rfl
 obtain ⟨b0, b1⟩ := b
 dsimp only at hb ⊢
 have hw : IntKind.i64.wrap (b0 + b1) = b0 + b1 := by rw [IntKind.wrap_i64]; omega
 clear hb hr
 generalize r.f = f at *
 generalize r.o = o at *
 show Calls Try.prog 57 #[.agg #[.int .i64 b0, .int .i64 b1], .pointer (some ⟨gr, 0, none⟩)] W _
 go_enter Try.func57, Try.ntmps57
 go_upto_region 1 with fail
 refine enterR (P := fun u => Code.wp _ _ _ _ u) (c := [.int .i64 b0, .int .i64 b1]) ?_
 intro u HB s0 zx hsx
 have d0 : u.cell? ⟨W.heap.size, 0, none⟩ = some (.int .i64 b0) := s0 0 _ rfl
 have d1 : u.cell? ⟨W.heap.size, 1, none⟩ = some (.int .i64 b1) := s0 1 _ rfl
 have k3 := keep_cell HB k3
 have k4 := keep_cell HB k4
 clear s0 zx hsx
 go_wp2
 go_ret
 exact ⟨by first | rfl | (simp; done) | (congr 1; simp; done), HB⟩
theorem Sp2_g (b : Int × Int) (r : Ru) (gr : Nat) {W : World} (hr : W.rangeAt gr 0 [.bool r.v, .int .i64 r.a, .int .i64 r.t, .int .i64 r.f, .int .i64 r.o]) (hb : (0 ≤ b.1 ∧ b.1 ≤ 4096) ∧ (0 ≤ b.2 ∧ b.2 ≤ 4096)) : Calls Try.prog 58 (#[.agg #[.int .i64 b.1, .int .i64 b.2]] ++ #[.pointer (some ⟨gr, 0, none⟩)]) W (RetB W (decide (b.1 + b.2 = r.o))) := by
 have k0 : (W).cell? ⟨gr, 0, none⟩ = some (.bool r.v) := hr 0 _ rfl
 have k1 : (W).cell? ⟨gr, 1, none⟩ = some (.int .i64 r.a) := hr 1 _ rfl
 have k2 : (W).cell? ⟨gr, 2, none⟩ = some (.int .i64 r.t) := hr 2 _ rfl
 have k3 : (W).cell? ⟨gr, 3, none⟩ = some (.int .i64 r.f) := hr 3 _ rfl
 have k4 : (W).cell? ⟨gr, 4, none⟩ = some (.int .i64 r.o) := hr 4 _ rfl
 obtain ⟨b0, b1⟩ := b
 dsimp only at hb ⊢
 have hw : IntKind.i64.wrap (b0 + b1) = b0 + b1 := by rw [IntKind.wrap_i64]; omega
 clear hb hr
 generalize r.f = f at *
 generalize r.o = o at *
 show Calls Try.prog 58 #[.agg #[.int .i64 b0, .int .i64 b1], .pointer (some ⟨gr, 0, none⟩)] W _
 go_enter Try.func58, Try.ntmps58
 go_upto_region 1 with fail
 refine enterR (P := fun u => Code.wp _ _ _ _ u) (c := [.int .i64 b0, .int .i64 b1]) ?_
 intro u HB s0 zx hsx
 have d0 : u.cell? ⟨W.heap.size, 0, none⟩ = some (.int .i64 b0) := s0 0 _ rfl
 have d1 : u.cell? ⟨W.heap.size, 1, none⟩ = some (.int .i64 b1) := s0 1 _ rfl
 have k3 := keep_cell HB k3
 have k4 := keep_cell HB k4
 clear s0 zx hsx
 go_wp2
 go_ret
 exact ⟨by first | rfl | (simp; done) | (congr 1; simp; done), HB⟩
end Go.Proofs.Ytjfgklhifhaaoaa
