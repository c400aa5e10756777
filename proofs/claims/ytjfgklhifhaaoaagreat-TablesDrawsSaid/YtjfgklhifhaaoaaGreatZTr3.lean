/- Tables: Locate of the reference. Conditions: none. -/
import Derived.Test.YtjfgklhifhaaoaaGreatZTw2
set_option linter.unusedVariables false
set_option linter.unusedSimpArgs false
namespace Go.Proofs.YtjfgklhifhaaoaaGreat
open Go.RowKit
def empB (b : Bx) : Bool := decide (b.w < 1 ∨ b.h < 1) || !(nrB b.x && nrB b.y && nrB b.w && nrB b.h)
theorem hit_iff {b : Bx} {x y : Int} : hitB b x y = true ↔ empB b = false ∧ empB ⟨x, y, 1, 1⟩ = false ∧ b.x ≤ x ∧ x < b.x + b.w ∧ b.y ≤ y ∧ y < b.y + b.h := by
 unfold hitB empB
 simp only [decide_eq_true_iff, Bool.and_eq_true, Bool.or_eq_false_iff, decide_eq_false_iff_not, Bool.not_eq_false', nrB_iff]
 omega
theorem RFits_g (x : Int) (w : World) : Calls Tryz.prog 70 #[.int .i64 x] w (RetB w (nrB x)) := by
 have hs := hid (nrB_iff (x := x))
 generalize nrB x = t at *
 have hn : Hid (¬ (-1073741824 ≤ x ∧ x ≤ 1073741824) → t = false) := fun h => Bool.eq_false_iff.2 fun e => h (hs.out.1 e)
 have HB := Below.refl w.heap.size w
 go_enter Tryz.func70, Tryz.ntmps70
 by_cases h1 : -1073741824 ≤ x
 ·by_cases h2 : x ≤ 1073741824
  ·obtain rfl := hs.out.2 (by omega)
   clear hs hn
   go_wp2
   go_ret
   exact ⟨rfl, HB⟩
  ·obtain rfl := hn.out (by omega)
   clear hs hn
   go_wp2
   go_ret
   exact ⟨rfl, HB⟩
 ·obtain rfl := hn.out (by omega)
  clear hs hn
  go_wp2
  go_ret
  exact ⟨rfl, HB⟩
set_option maxHeartbeats 4000000 in
theorem REmp_g (b : Bx) (w : World) : Calls Tryz.prog 49 #[.agg #[.int .i64 b.x, .int .i64 b.y, .int .i64 b.w, .int .i64 b.h]] w (RetB w (empB b)) := by
 obtain ⟨x, y, bw, bh⟩ := b
 dsimp only
 obtain ⟨t, ht⟩ : ∃ t, empB ⟨x, y, bw, bh⟩ = t := ⟨_, rfl⟩
 have h0 := hid fun (h : bw < 1 ∨ bh < 1) => (show t = true from by rw [← ht]; unfold empB; dsimp only; rw [decide_eq_true h]; rfl)
 have h1 := hid fun (h : ¬ (bw < 1 ∨ bh < 1)) => (show t = !(nrB x && nrB y && nrB bw && nrB bh) from by rw [← ht]; unfold empB; dsimp only; rw [decide_eq_false h]; rfl)
 have H1 := hid fun W => RFits_g x W
 have H2 := hid fun W => RFits_g y W
 have H3 := hid fun W => RFits_g bw W
 have H4 := hid fun W => RFits_g bh W
 rw [ht]
 clear ht
 generalize nrB x = N1 at *
 generalize nrB y = N2 at *
 generalize nrB bw = N3 at *
 generalize nrB bh = N4 at *
 go_enter Tryz.func49, Tryz.ntmps49
 go_upto_region 1 with fail
 refine enterR (P := fun u => Code.wp _ _ _ _ u) (c := [.int .i64 x, .int .i64 y, .int .i64 bw, .int .i64 bh]) ?_
 intro u HB r0 zn0 hsz
 have c0 : u.cell? ⟨w.heap.size, 0, none⟩ = some (.int .i64 x) := r0 0 _ rfl
 have c1 : u.cell? ⟨w.heap.size, 1, none⟩ = some (.int .i64 y) := r0 1 _ rfl
 have c2 : u.cell? ⟨w.heap.size, 2, none⟩ = some (.int .i64 bw) := r0 2 _ rfl
 have c3 : u.cell? ⟨w.heap.size, 3, none⟩ = some (.int .i64 bh) := r0 3 _ rfl
 clear r0 zn0 hsz
 by_cases g1 : bw < 1
 ·obtain rfl := h0.out (Or.inl g1)
  clear h0 h1 H1 H2 H3 H4
  go_wp2
  go_ret
  exact ⟨rfl, HB⟩
 ·by_cases g2 : bh < 1
  ·obtain rfl := h0.out (Or.inr g2)
   clear h0 h1 H1 H2 H3 H4
   go_wp2
   go_ret
   exact ⟨rfl, HB⟩
  ·replace h1 := hid (h1.out (by omega))
   clear h0
   go_wp2_with fail
   refine (H1.out u).mono ?_
   rintro e v1 ⟨rfl, hv⟩
   have c0 := keep_cell hv c0
   have c1 := keep_cell hv c1
   have c2 := keep_cell hv c2
   have c3 := keep_cell hv c3
   replace HB := bel_step HB hv
   clear hv H1
   cases N1
   ·have he := h1.out
    simp only [Bool.false_and, Bool.not_false] at he
    subst he
    clear h1 H2 H3 H4
    go_wp2
    go_ret
    exact ⟨rfl, HB⟩
   ·go_wp2_with fail
    refine (H2.out v1).mono ?_
    rintro e v2 ⟨rfl, hv⟩
    have c0 := keep_cell hv c0
    have c1 := keep_cell hv c1
    have c2 := keep_cell hv c2
    have c3 := keep_cell hv c3
    replace HB := bel_step HB hv
    clear hv H2
    cases N2
    ·have he := h1.out
     simp only [Bool.false_and, Bool.true_and, Bool.and_false, Bool.not_false] at he
     subst he
     clear h1 H3 H4
     go_wp2
     go_ret
     exact ⟨rfl, HB⟩
    ·go_wp2_with fail
     refine (H3.out v2).mono ?_
     rintro e v3 ⟨rfl, hv⟩
     have c0 := keep_cell hv c0
     have c1 := keep_cell hv c1
     have c2 := keep_cell hv c2
     have c3 := keep_cell hv c3
     replace HB := bel_step HB hv
     clear hv H3
     cases N3
     ·have he := h1.out
      simp only [Bool.false_and, Bool.true_and, Bool.and_false, Bool.not_false] at he
      subst he
      clear h1 H4
      go_wp2
      go_ret
      exact ⟨rfl, HB⟩
     ·go_wp2_with fail
      refine (H4.out v3).mono ?_
      rintro e v4 ⟨rfl, hv⟩
      have c0 := keep_cell hv c0
      have c1 := keep_cell hv c1
      have c2 := keep_cell hv c2
      have c3 := keep_cell hv c3
      replace HB := bel_step HB hv
      clear hv H4
      cases N4
      ·have he := h1.out
       simp only [Bool.false_and, Bool.true_and, Bool.and_false, Bool.not_false] at he
       subst he
       clear h1
       go_wp2
       go_ret
       exact ⟨rfl, HB⟩
      ·have he := h1.out
       simp only [Bool.true_and, Bool.not_true] at he
       subst he
       clear h1
       go_wp2
       go_ret
       exact ⟨rfl, HB⟩
set_option maxRecDepth 100000 in
set_option maxHeartbeats 4000000 in
theorem RLoc_g (r k : Int) (l : List Ce) (A : Option Addr) (c : Nat) (x y : Int) {w : World} (hl : CeK.Rd w A c l) :
  Calls Tryz.prog 20 #[.agg #[.int .i64 r, .int .i64 k, .slice A l.length c], .agg #[.int .i64 x, .int .i64 y]] w (RetNE w (locE l x y)) := by
 obtain ⟨n, hn⟩ : ∃ n, l.length = n := ⟨_, rfl⟩
 obtain ⟨E, hE⟩ : ∃ q, locE l x y = q := ⟨_, rfl⟩
 have hM := hid fun (j : Nat) (hj : j < n) (W : World) (hb : Below w.heap.size w W) => (hl.below hb).at_ (j := j) (by omega)
 have cc := Nat.le_trans hl.cap hl.max
 have h4 := hid fun (h : 4096 < n) => hE.symm.trans (locE_long (by omega))
 have hY := hid fun (h : ¬ 4096 < n) (i : Nat) (hi : i < l.length) (ht : hitB l[i].b x y = true) (hb : ∀ j (hj : j < l.length), j < i → hitB l[j].b x y = false) => hE.symm.trans (locE_at (by omega) hi ht hb)
 have hN := hid fun (h : ¬ 4096 < n) (hb : ∀ j (hj : j < l.length), hitB l[j].b x y = false) => hE.symm.trans (locE_no (by omega) hb)
 rw [hE]
 rw [hn] at cc ⊢
 replace hn := hid hn
 clear hl hE
 go_enter Tryz.func20, Tryz.ntmps20
 go_upto_region 1 with fail
 refine enterR2 (P := fun u => Code.wp _ _ _ _ u) (c0 := [.int .i64 r, .int .i64 k, .slice A n c]) (c1 := [.int .i64 x, .int .i64 y]) ?_
 intro u HB r0 r1 zn0 zn1 hsz
 clear hsz zn0 zn1
 have c2 : u.cell? ⟨w.heap.size, 2, none⟩ = some (.slice A n c) := r0 2 _ rfl
 have d0 : u.cell? ⟨w.heap.size + 1, 0, none⟩ = some (.int .i64 x) := r1 0 _ rfl
 have d1 : u.cell? ⟨w.heap.size + 1, 1, none⟩ = some (.int .i64 y) := r1 1 _ rfl
 clear r0 r1
 by_cases g1 : 4096 < n
 ·have gi : (4096 : Int) < (n : Int) := by omega
  obtain rfl := h4.out g1
  clear h4 hY hN hM
  go_wp2
  refine bodyPost_ret (v := .tuple #[.int .i64 0, .int .i64 4]) ?_ rfl ?_
  ·simp [results, Tryz.results20, go_sem]
  ·exact ⟨rfl, HB⟩
 ·have gi : ¬ (4096 : Int) < (n : Int) := by omega
  replace hY := hid (hY.out g1)
  replace hN := hid (hN.out g1)
  clear h4
  go_wp2
  have hD := hid fun (W : World) (hb : Below u.heap.size u W) => And.intro (And.intro (keep_cell hb d0) (keep_cell hb d1)) (keep_cell hb c2)
  clear c2
  clear d0 d1
  go_loopw [6] (fun s6 wr => ∃ i : Nat, s6 = .int .i64 i ∧ i ≤ n ∧ Hid (∀ j (h1 : j < l.length), j < i → hitB l[j].b x y = false) ∧ Below u.heap.size u wr) (fun s6 _ => n - (intOf s6).toNat)
  case atStart => exact ⟨0, rfl, by omega, fun j _ h => by omega, Below.refl _ _⟩
  case round =>
   obtain ⟨i, rfl, hi, hA, hbu⟩ := hrel
   by_cases hin : i < n
   ·have hii : (i : Int) < (n : Int) := by omega
    have hil : i < l.length := by have := hn.out; omega
    have HBr := bel_step HB hbu
    obtain ⟨b, o, hA3, hc⟩ := hM.out i hin wr HBr
    have e0 : wr.cell? ⟨b, (o + i * 8), none⟩ = some (.int .i64 l[i].r) := hc 0 _ rfl
    have e1 : wr.cell? ⟨b, (o + i * 8) + 1, none⟩ = some (.int .i64 l[i].c) := hc 1 _ rfl
    have e2 : wr.cell? ⟨b, (o + i * 8) + 2, none⟩ = some (.int .i64 l[i].rs) := hc 2 _ rfl
    have e3 : wr.cell? ⟨b, (o + i * 8) + 3, none⟩ = some (.int .i64 l[i].cs) := hc 3 _ rfl
    have e4 : wr.cell? ⟨b, (o + i * 8) + 4, none⟩ = some (.int .i64 l[i].b.x) := hc 4 _ rfl
    have e5 : wr.cell? ⟨b, (o + i * 8) + 5, none⟩ = some (.int .i64 l[i].b.y) := hc 5 _ rfl
    have e6 : wr.cell? ⟨b, (o + i * 8) + 6, none⟩ = some (.int .i64 l[i].b.w) := hc 6 _ rfl
    have e7 : wr.cell? ⟨b, (o + i * 8) + 7, none⟩ = some (.int .i64 l[i].b.h) := hc 7 _ rfl
    obtain ⟨⟨d0, d1⟩, c2⟩ := hD.out wr hbu
    clear hc
    subst hA3
    obtain ⟨t, ht⟩ : ∃ t, hitB l[i].b x y = t := ⟨_, rfl⟩
    have ht1 := hid fun (h : empB l[i].b = false ∧ empB ⟨x, y, 1, 1⟩ = false ∧ l[i].b.x ≤ x ∧ x < l[i].b.x + l[i].b.w ∧ l[i].b.y ≤ y ∧ y < l[i].b.y + l[i].b.h) => (show t = true from ht.symm.trans (hit_iff.2 h))
    have ht2 := hid fun (h : ¬ (empB l[i].b = false ∧ empB ⟨x, y, 1, 1⟩ = false ∧ l[i].b.x ≤ x ∧ x < l[i].b.x + l[i].b.w ∧ l[i].b.y ≤ y ∧ y < l[i].b.y + l[i].b.h)) => (show t = false from ht.symm.trans (Bool.eq_false_iff.2 fun e => h (hit_iff.1 e)))
    have hb1 := hid fun (h : t = true) => hY.out i hil (ht.trans h) hA.out
    have hb2 := hid fun (h : t = false) (j : Nat) (h1 : j < l.length) (hj : j < i + 1) => (show hitB l[j].b x y = false from by
     by_cases e : j = i
     ·subst e; exact ht.trans h
     ·exact hA.out j h1 (by omega))
    generalize l[i] = q at *
    obtain ⟨q0, q1, q2, q3, bx, bY, bw, bh⟩ := q
    dsimp only at e0 e1 e2 e3 e4 e5 e6 e7 ht1 ht2
    clear hM hA hY hN ht
    go_upto_region 7 with fail
    refine enterR (P := fun u => Code.wp _ _ _ _ u) (c := [.int .i64 bx, .int .i64 bY, .int .i64 bw, .int .i64 bh]) ?_
    intro v hbv s1 zn1 hsz
    clear hsz zn1 e0 e1 e2 e3 e4 e5 e6 e7
    have c2 := keep_cell hbv c2
    have d0 := keep_cell hbv d0
    have d1 := keep_cell hbv d1
    have f0 : v.cell? ⟨wr.heap.size, 0, none⟩ = some (.int .i64 bx) := s1 0 _ rfl
    have f1 : v.cell? ⟨wr.heap.size, 1, none⟩ = some (.int .i64 bY) := s1 1 _ rfl
    have f2 : v.cell? ⟨wr.heap.size, 2, none⟩ = some (.int .i64 bw) := s1 2 _ rfl
    have f3 : v.cell? ⟨wr.heap.size, 3, none⟩ = some (.int .i64 bh) := s1 3 _ rfl
    clear s1
    replace hbu := bel_step hbu hbv
    have HB0 := HB
    clear hbv HBr
    obtain ⟨N, hN⟩ : ∃ N, empB ⟨bx, bY, bw, bh⟩ = N := ⟨_, rfl⟩
    obtain ⟨M, hM⟩ : ∃ N, empB ⟨x, y, 1, 1⟩ = N := ⟨_, rfl⟩
    have hW := hid fun (h : N = false) => (show (-1073741824 ≤ bx ∧ bx ≤ 1073741824) ∧ (-1073741824 ≤ bY ∧ bY ≤ 1073741824) ∧ (-1073741824 ≤ bw ∧ bw ≤ 1073741824) ∧ (-1073741824 ≤ bh ∧ bh ≤ 1073741824) from by
     rw [← hN] at h
     unfold empB at h
     simp only [Bool.or_eq_false_iff, Bool.not_eq_false', Bool.and_eq_true, nrB_iff] at h
     omega)
    have H1 := hid fun (V : World) => (show Calls Tryz.prog 49 #[.agg #[.int .i64 bx, .int .i64 bY, .int .i64 bw, .int .i64 bh]] V (RetB V N) from by rw [← hN]; exact REmp_g ⟨bx, bY, bw, bh⟩ V)
    have H2 := hid fun (V : World) => (show Calls Tryz.prog 49 #[.agg #[.int .i64 x, .int .i64 y, .int .i64 1, .int .i64 1]] V (RetB V M) from by rw [← hM]; exact REmp_g ⟨x, y, 1, 1⟩ V)
    rw [hN, hM] at ht1 ht2
    clear hN hM
    go_wp2_with fail
    refine (H1.out _).mono ?_
    rintro e v1 ⟨rfl, hv⟩
    clear H1
    have c2 := keep_cell hv c2
    have d0 := keep_cell hv d0
    have d1 := keep_cell hv d1
    have f0 := keep_cell hv f0
    have f1 := keep_cell hv f1
    have f2 := keep_cell hv f2
    have f3 := keep_cell hv f3
    replace hbu := bel_step hbu hv
    clear hv
    replace HB := bel_step HB0 hbu
    cases N
    ·go_wp2_with fail
     refine (H2.out _).mono ?_
     rintro e v2 ⟨rfl, hv⟩
     clear H2
     have c2 := keep_cell hv c2
     have d0 := keep_cell hv d0
     have d1 := keep_cell hv d1
     have f0 := keep_cell hv f0
     have f1 := keep_cell hv f1
     have f2 := keep_cell hv f2
     have f3 := keep_cell hv f3
     replace hbu := bel_step hbu hv
     clear hv
     replace HB := bel_step HB0 hbu
     cases M
     ·obtain ⟨w1, w2, w3, w4⟩ := hW.out (by first | rfl | trivial)
      have hwx : IntKind.i64.wrap (bx + bw) = bx + bw := by rw [IntKind.wrap_i64]; omega
      have hwy : IntKind.i64.wrap (bY + bh) = bY + bh := by rw [IntKind.wrap_i64]; omega
      clear hW hD w1 w2 w3 w4
      by_cases g2 : bx ≤ x
      ·by_cases g3 : x < bx + bw
       ·by_cases g4 : bY ≤ y
        ·by_cases g5 : y < bY + bh
         ·obtain rfl := ht1.out ⟨(by first | rfl | trivial), (by first | rfl | trivial), g2, g3, g4, g5⟩
          obtain rfl := hb1.out rfl
          clear ht1 ht2
          clear hb1 hb2
          go_wp2
          refine bodyPost_ret (v := .tuple #[.int .i64 (i : Int), .int .i64 0]) ?_ rfl ?_
          ·simp [results, Tryz.results20, go_sem]
          ·exact ⟨rfl, HB⟩
         ·obtain rfl := ht2.out fun h => g5 h.2.2.2.2.2
          clear ht1 ht2
          have hA2 := hid (hb2.out rfl)
          clear hb1 hb2
          go_wp2
          go_roundw
          case rel => exact ⟨i + 1, by go_num, by omega, hA2, hbu⟩
          case measure => simp [intOf]; omega
        ·obtain rfl := ht2.out fun h => g4 h.2.2.2.2.1
         clear ht1 ht2
         have hA2 := hid (hb2.out rfl)
         clear hb1 hb2
         go_wp2
         go_roundw
         case rel => exact ⟨i + 1, by go_num, by omega, hA2, hbu⟩
         case measure => simp [intOf]; omega
       ·obtain rfl := ht2.out fun h => g3 h.2.2.2.1
        clear ht1 ht2
        have hA2 := hid (hb2.out rfl)
        clear hb1 hb2
        go_wp2
        go_roundw
        case rel => exact ⟨i + 1, by go_num, by omega, hA2, hbu⟩
        case measure => simp [intOf]; omega
      ·obtain rfl := ht2.out fun h => g2 h.2.2.1
       clear ht1 ht2
       have hA2 := hid (hb2.out rfl)
       clear hb1 hb2
       go_wp2
       go_roundw
       case rel => exact ⟨i + 1, by go_num, by omega, hA2, hbu⟩
       case measure => simp [intOf]; omega
     ·obtain rfl := ht2.out fun h => by cases h.2.1
      clear ht1 ht2 hW hD
      have hA2 := hid (hb2.out rfl)
      clear hb1 hb2
      go_wp2
      go_roundw
      case rel => exact ⟨i + 1, by go_num, by omega, hA2, hbu⟩
      case measure => simp [intOf]; omega
    ·obtain rfl := ht2.out fun h => by cases h.1
     clear ht1 ht2 hW hD H2
     have hA2 := hid (hb2.out rfl)
     clear hb1 hb2
     go_wp2
     go_roundw
     case rel => exact ⟨i + 1, by go_num, by omega, hA2, hbu⟩
     case measure => simp [intOf]; omega
   ·obtain rfl : i = n := by omega
    have HBr := bel_step HB hbu
    obtain ⟨⟨d0, d1⟩, c2⟩ := hD.out wr hbu
    obtain rfl := hN.out (fun j h1 => hA.out j h1 (by have := hn.out; omega))
    have hii : ¬ (i : Int) < (i : Int) := by omega
    clear hM hA hY hN hD
    go_wp2
    refine bodyPost_ret (v := .tuple #[.int .i64 0, .int .i64 29]) ?_ rfl ?_
    ·simp [results, Tryz.results20, go_sem]
    ·exact ⟨(by first | rfl | trivial), HBr⟩
end Go.Proofs.YtjfgklhifhaaoaaGreat
