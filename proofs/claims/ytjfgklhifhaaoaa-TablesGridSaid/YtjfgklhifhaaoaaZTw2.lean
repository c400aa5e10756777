/- Tables: Locate of the package. Conditions: none. -/
import Derived.Test.YtjfgklhifhaaoaaZTw1
set_option linter.unusedVariables false
set_option linter.unusedSimpArgs false
namespace Go.Proofs.Ytjfgklhifhaaoaa
open Go.RowKit
theorem Knd.Rd.of_rng {α : Type} {X : Knd α} (ok : X.Ok) {w : World} {g c : Nat} {l : List α} (hr : w.rangeAt g 0 (X.flat l)) (hlt : g < w.heap.size) (hc : l.length ≤ c) (hm : c ≤ 9223372036854775807) : X.Rd w (some ⟨g, 0, none⟩) c l :=
 ⟨hc, hm, fun _ => ⟨g, 0, rfl, hlt, fun j hj i u hu => by
  have := hr (j * X.k + i) u (by rw [Knd.flat_get ok l j i hj (Knd.enc_lt ok hu)]; exact hu)
  rw [Nat.add_assoc]
  exact this⟩⟩
/-- a number and an error -/
def RetNE (w : World) (q : Int × Int) (e : Ending) (w' : World) : Prop := e = .returned (.tuple #[.int .i64 q.1, .int .i64 q.2]) ∧ Below w.heap.size w w'
set_option maxRecDepth 100000 in
set_option maxHeartbeats 4000000 in
theorem TLoc_g (r k : Int) (l : List Ce) (A : Option Addr) (c : Nat) (x y : Int) {w : World} (hl : CeK.Rd w A c l) :
  Calls Try.prog 13 #[.agg #[.int .i64 r, .int .i64 k, .slice A l.length c], .agg #[.int .i64 x, .int .i64 y]] w (RetNE w (locE l x y)) := by
 obtain ⟨n, hn⟩ : ∃ n, l.length = n := ⟨_, rfl⟩
 obtain ⟨E, hE⟩ : ∃ q, locE l x y = q := ⟨_, rfl⟩
 have hM := hid fun (j : Nat) (hj : j < n) (W : World) (hb : Below w.heap.size w W) => (hl.below hb).at_ (j := j) (by omega)
 have cc := Nat.le_trans hl.cap hl.max
 have h4 := hid fun (h : 4096 < n) => hE.symm.trans (locE_long (by omega))
 have hY := hid fun (h : ¬ 4096 < n) (i : Nat) (hi : i < l.length) (ht : hitB l[i].b x y = true) (hb : ∀ j (hj : j < l.length), j < i → hitB l[j].b x y = false) => hE.symm.trans (locE_at (by omega) hi ht hb)
 have hN := hid fun (h : ¬ 4096 < n) (hb : ∀ j (hj : j < l.length), hitB l[j].b x y = false) => hE.symm.trans (locE_no (by omega) hb)
 rw [hE]
 rw [hn] at cc ⊢
 replace hn := hid hn
 clear hl hE
 go_enter Try.func13, Try.ntmps13
 go_upto_region 1 with fail
 refine enterR2 (P := fun u => Code.wp _ _ _ _ u) (c0 := [.int .i64 r, .int .i64 k, .slice A n c]) (c1 := [.int .i64 x, .int .i64 y]) ?_
 intro u HB r0 r1 zn0 zn1 hsz
 clear hsz zn0 zn1
 have c2 : u.cell? ⟨w.heap.size, 2, none⟩ = some (.slice A n c) := r0 2 _ rfl
 have d0 : u.cell? ⟨w.heap.size + 1, 0, none⟩ = some (.int .i64 x) := r1 0 _ rfl
 have d1 : u.cell? ⟨w.heap.size + 1, 1, none⟩ = some (.int .i64 y) := r1 1 _ rfl
 clear r0 r1
 by_cases g1 : 4096 < n
 ·have gi : (4096 : Int) < (n : Int) := by omega
  obtain rfl := h4.out g1
  clear h4 hY hN hM
  go_wp2
  refine bodyPost_ret (v := .tuple #[.int .i64 0, .int .i64 4]) ?_ rfl ?_
  ·simp [results, Try.results13, go_sem]
  ·exact ⟨rfl, HB⟩
 ·have gi : ¬ (4096 : Int) < (n : Int) := by omega
  replace hY := hid (hY.out g1)
  replace hN := hid (hN.out g1)
  clear h4
  go_wp2
  clear c2
  have hD := hid fun (W : World) (hb : Below u.heap.size u W) => And.intro (keep_cell hb d0) (keep_cell hb d1)
  clear d0 d1
  go_loopw [16] (fun s16 wr => ∃ i : Nat, s16 = .int .i64 i ∧ i ≤ n ∧ Hid (∀ j (h1 : j < l.length), j < i → hitB l[j].b x y = false) ∧ Below u.heap.size u wr) (fun s16 _ => n - (intOf s16).toNat)
  case atStart => exact ⟨0, rfl, by omega, fun j _ h => by omega, Below.refl _ _⟩
  case round =>
   obtain ⟨i, rfl, hi, hA, hbu⟩ := hrel
   by_cases hin : i < n
   ·have hii : (i : Int) < (n : Int) := by omega
    have hil : i < l.length := by have := hn.out; omega
    have HBr := bel_step HB hbu
    obtain ⟨b, o, hA3, hc⟩ := hM.out i hin wr HBr
    have e0 : wr.cell? ⟨b, (o + i * 8), none⟩ = some (.int .i64 l[i].r) := hc 0 _ rfl
    have e1 : wr.cell? ⟨b, (o + i * 8) + 1, none⟩ = some (.int .i64 l[i].c) := hc 1 _ rfl
    have e2 : wr.cell? ⟨b, (o + i * 8) + 2, none⟩ = some (.int .i64 l[i].rs) := hc 2 _ rfl
    have e3 : wr.cell? ⟨b, (o + i * 8) + 3, none⟩ = some (.int .i64 l[i].cs) := hc 3 _ rfl
    have e4 : wr.cell? ⟨b, (o + i * 8) + 4, none⟩ = some (.int .i64 l[i].b.x) := hc 4 _ rfl
    have e5 : wr.cell? ⟨b, (o + i * 8) + 5, none⟩ = some (.int .i64 l[i].b.y) := hc 5 _ rfl
    have e6 : wr.cell? ⟨b, (o + i * 8) + 6, none⟩ = some (.int .i64 l[i].b.w) := hc 6 _ rfl
    have e7 : wr.cell? ⟨b, (o + i * 8) + 7, none⟩ = some (.int .i64 l[i].b.h) := hc 7 _ rfl
    obtain ⟨d0, d1⟩ := hD.out wr hbu
    clear hc
    subst hA3
    obtain ⟨t, ht⟩ : ∃ t, hitB l[i].b x y = t := ⟨_, rfl⟩
    have ht1 := hid fun (h : (nrB x && nrB y && nrB l[i].b.x && nrB l[i].b.y && nrB l[i].b.w && nrB l[i].b.h) = true ∧ l[i].b.x ≤ x ∧ x < l[i].b.x + l[i].b.w ∧ l[i].b.y ≤ y ∧ y < l[i].b.y + l[i].b.h) => ht.symm.trans (hitB_yes h)
    have ht2 := hid fun (h : ¬ ((nrB x && nrB y && nrB l[i].b.x && nrB l[i].b.y && nrB l[i].b.w && nrB l[i].b.h) = true ∧ l[i].b.x ≤ x ∧ x < l[i].b.x + l[i].b.w ∧ l[i].b.y ≤ y ∧ y < l[i].b.y + l[i].b.h)) => ht.symm.trans (hitB_no h)
    have hb1 := hid fun (h : t = true) => hY.out i hil (ht.trans h) hA.out
    have hb2 := hid fun (h : t = false) (j : Nat) (h1 : j < l.length) (hj : j < i + 1) => (show hitB l[j].b x y = false from by
     by_cases e : j = i
     ·subst e; exact ht.trans h
     ·exact hA.out j h1 (by omega))
    generalize l[i] = q at *
    obtain ⟨q0, q1, q2, q3, bx, bY, bw, bh⟩ := q
    dsimp only at e0 e1 e2 e3 e4 e5 e6 e7 ht1 ht2
    clear hM hA hY hN ht
    go_upto_region 7 with fail
    refine enterR2 (P := fun u => Code.wp _ _ _ _ u) (c0 := [.int .i64 q0, .int .i64 q1, .int .i64 q2, .int .i64 q3, .int .i64 bx, .int .i64 bY, .int .i64 bw, .int .i64 bh]) (c1 := [.int .i64 bx, .int .i64 bY, .int .i64 bw, .int .i64 bh]) ?_
    intro v hbv s0 s1 zn0 zn1 hsz
    clear hsz zn0 zn1 e0 e1 e2 e3 e4 e5 e6 e7 s0
    have d0 := keep_cell hbv d0
    have d1 := keep_cell hbv d1
    have f0 : v.cell? ⟨wr.heap.size + 1, 0, none⟩ = some (.int .i64 bx) := s1 0 _ rfl
    have f1 : v.cell? ⟨wr.heap.size + 1, 1, none⟩ = some (.int .i64 bY) := s1 1 _ rfl
    have f2 : v.cell? ⟨wr.heap.size + 1, 2, none⟩ = some (.int .i64 bw) := s1 2 _ rfl
    have f3 : v.cell? ⟨wr.heap.size + 1, 3, none⟩ = some (.int .i64 bh) := s1 3 _ rfl
    clear s1
    replace hbu := bel_step hbu hbv
    clear hbv HBr
    obtain ⟨N, hN⟩ : ∃ N, (nrB x && nrB y && nrB bx && nrB bY && nrB bw && nrB bh) = N := ⟨_, rfl⟩
    have hW := hid fun (h : N = true) => (show (-1073741824 ≤ bx ∧ bx ≤ 1073741824) ∧ (-1073741824 ≤ bY ∧ bY ≤ 1073741824) ∧ (-1073741824 ≤ bw ∧ bw ≤ 1073741824) ∧ (-1073741824 ≤ bh ∧ bh ≤ 1073741824) from by
     rw [← hN] at h
     simp only [Bool.and_eq_true, nrB_iff] at h
     omega)
    have H1 := hid fun (V : World) (g : Nat) (hr : V.rangeAt g 0 [.int .i64 x, .int .i64 y, .int .i64 bx, .int .i64 bY, .int .i64 bw, .int .i64 bh]) (hlt : g < V.heap.size) => (show Calls Try.prog 32 #[.slice (some ⟨g, 0, none⟩) 6 6] V (RetB V N) from by
     have := near_g [x, y, bx, bY, bw, bh] (some ⟨g, 0, none⟩) 6 (w := V) (Knd.Rd.of_rng InKo hr hlt (by simp) (by omega))
     have e : (!([x, y, bx, bY, bw, bh] : List Int).any nonr) = N := by rw [← hN]; simp [nonr, Bool.and_assoc]
     rw [e] at this
     exact this)
    rw [hN] at ht1 ht2
    clear hN
    go_wp2_with fail
    refine (H1.out _ v.heap.size ?_ (by simp)).mono ?_
    ·exact rng_alloc (w := v) (cs := [.int .i64 x, .int .i64 y, .int .i64 bx, .int .i64 bY, .int .i64 bw, .int .i64 bh]) (t := 3)
    rintro e v1 ⟨rfl, hv⟩
    clear H1
    replace hv : Below v.heap.size v v1 := bel_step ((Below.refl _ _).alloc (Nat.le_refl _) _) hv
    have d0 := keep_cell hv d0
    have d1 := keep_cell hv d1
    have f0 := keep_cell hv f0
    have f1 := keep_cell hv f1
    have f2 := keep_cell hv f2
    have f3 := keep_cell hv f3
    replace hbu := bel_step hbu hv
    clear hv
    replace HB := bel_step HB hbu
    cases N
    ·obtain rfl := ht2.out (by simp)
     clear ht1 ht2 hW hD
     have hA2 := hid (hb2.out rfl)
     clear hb1 hb2
     go_wp2
     go_roundw
     case rel => exact ⟨i + 1, by go_num, by omega, hA2, hbu⟩
     case measure => simp [intOf]; omega
    ·obtain ⟨w1, w2, w3, w4⟩ := hW.out rfl
     have hwx : IntKind.i64.wrap (bx + bw) = bx + bw := by rw [IntKind.wrap_i64]; omega
     have hwy : IntKind.i64.wrap (bY + bh) = bY + bh := by rw [IntKind.wrap_i64]; omega
     clear hW hD w1 w2 w3 w4
     by_cases g2 : bx ≤ x
     ·by_cases g3 : x < bx + bw
      ·by_cases g4 : bY ≤ y
       ·by_cases g5 : y < bY + bh
        ·obtain rfl := ht1.out ⟨rfl, g2, g3, g4, g5⟩
         obtain rfl := hb1.out rfl
         clear ht1 ht2
         clear hb1 hb2
         go_wp2
         refine bodyPost_ret (v := .tuple #[.int .i64 (i : Int), .int .i64 0]) ?_ rfl ?_
         ·simp [results, Try.results13, go_sem]
         ·exact ⟨rfl, HB⟩
        ·obtain rfl := ht2.out fun h => g5 h.2.2.2.2
         clear ht1 ht2
         have hA2 := hid (hb2.out rfl)
         clear hb1 hb2
         go_wp2
         go_roundw
         case rel => exact ⟨i + 1, by go_num, by omega, hA2, hbu⟩
         case measure => simp [intOf]; omega
       ·obtain rfl := ht2.out fun h => g4 h.2.2.2.1
        clear ht1 ht2
        have hA2 := hid (hb2.out rfl)
        clear hb1 hb2
        go_wp2
        go_roundw
        case rel => exact ⟨i + 1, by go_num, by omega, hA2, hbu⟩
        case measure => simp [intOf]; omega
      ·obtain rfl := ht2.out fun h => g3 h.2.2.1
       clear ht1 ht2
       have hA2 := hid (hb2.out rfl)
       clear hb1 hb2
       go_wp2
       go_roundw
       case rel => exact ⟨i + 1, by go_num, by omega, hA2, hbu⟩
       case measure => simp [intOf]; omega
     ·obtain rfl := ht2.out fun h => g2 h.2.1
      clear ht1 ht2
      have hA2 := hid (hb2.out rfl)
      clear hb1 hb2
      go_wp2
      go_roundw
      case rel => exact ⟨i + 1, by go_num, by omega, hA2, hbu⟩
      case measure => simp [intOf]; omega
   ·obtain rfl : i = n := by omega
    have HBr := bel_step HB hbu
    obtain rfl := hN.out (fun j h1 => hA.out j h1 (by have := hn.out; omega))
    have hii : ¬ (i : Int) < (i : Int) := by omega
    clear hM hA hY hN hD
    go_wp2
    refine bodyPost_ret (v := .tuple #[.int .i64 0, .int .i64 29]) ?_ rfl ?_
    ·simp [results, Try.results13, go_sem]
    ·exact ⟨rfl, HBr⟩
end Go.Proofs.Ytjfgklhifhaaoaa
