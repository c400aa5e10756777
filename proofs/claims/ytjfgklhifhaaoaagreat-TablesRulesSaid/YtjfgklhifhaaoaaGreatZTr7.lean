/- Tables: the reference's lines of one direction. Conditions: sides of at most 4096. -/
import Derived.Test.YtjfgklhifhaaoaaGreatZTr6
set_option linter.unusedVariables false
set_option linter.unusedSimpArgs false
namespace Go.Proofs.YtjfgklhifhaaoaaGreat
open Go.RowKit
theorem run_max2' {P : Program} (w : World) (ts : Array TypeId) (t : TypeId) (a b : Int) : (Builtin.max_ ts t #[.int .i64 a, .int .i64 b]).run P w = .ok (.int .i64 (max a b)) w := by
 have h : ∀ (x y : Int), (Builtin.max2 (.int .i64 x) (.int .i64 y)).run P w = .ok (.int .i64 (max x y)) w := fun x y => by
  simp only [Builtin.max2]
  split <;> simp <;> omega
 simp [Builtin.max_, Sem.run_bind, h]
theorem rowX_len (R : Nat → List (Nat × Nat)) (h : Nat) (v : Bool) (k : Nat) (L : List (Nat × Nat)) : (rowX R h v k L).length ≤ L.length := by
 unfold rowX
 rw [List.length_map]
 exact List.length_filter_le ..
theorem linK_len {R : Nat → List (Nat × Nat)} {h : Nat} {v : Bool} {S : Nat} (hR : ∀ y, (R y).length ≤ S) : ∀ i, (linK R h v i).length ≤ i * S
 | 0 => by simp [linK]
 | i + 1 => by
  rw [linK_succ, List.length_append, Nat.add_mul, Nat.one_mul]
  exact Nat.add_le_add (linK_len hR i) (Nat.le_trans (rowX_len ..) (hR i))
theorem Knd.Own.setOff {α : Type} {X : Knd α} {w : World} {base g i : Nat} {v u : Value} {l : List α} (h : X.Own w base v l) (hne : ∀ k, v.ownBlock = some k → k ≠ g) : X.Own (w.setCell ⟨g, i, none⟩ u) base v l :=
 h.kept fun k hk => Below.heap_setCell w ⟨g, i, none⟩ u k (hne k hk)
theorem rng_thick {w : World} {g : Nat} {a b c d e x : Value} (h : w.rangeAt g 0 [a, b, c, d, e]) : (w.setCell ⟨g, 2, none⟩ x).rangeAt g 0 [a, b, x, d, e] := fun j v hv => by
 have h0 : w.cell? ⟨g, 0, none⟩ = some a := h 0 _ rfl
 have h1 : w.cell? ⟨g, 1, none⟩ = some b := h 1 _ rfl
 have h2 : w.cell? ⟨g, 2, none⟩ = some c := h 2 _ rfl
 have h3 : w.cell? ⟨g, 3, none⟩ = some d := h 3 _ rfl
 have h4 : w.cell? ⟨g, 4, none⟩ = some e := h 4 _ rfl
 match j, hv with
 | 0, hv => obtain rfl := Option.some.inj hv; exact (cell_set_ne (by omega)).trans h0
 | 1, hv => obtain rfl := Option.some.inj hv; exact (cell_set_ne (by omega)).trans h1
 | 2, hv => obtain rfl := Option.some.inj hv; exact at_set h2
 | 3, hv => obtain rfl := Option.some.inj hv; exact (cell_set_ne (by omega)).trans h3
 | 4, hv => obtain rfl := Option.some.inj hv; exact (cell_set_ne (by omega)).trans h4
def thkM (w : World) (g : Nat) : Nat := match w.cell? ⟨g, 2, none⟩ with | some (.int _ z) => z.toNat | _ => 0
theorem thkM_eq {w : World} {g t : Nat} (h : w.cell? ⟨g, 2, none⟩ = some (.int .i64 (t : Int))) : thkM w g = t := by unfold thkM; rw [h]; simp
/-- the lines of row k, from the runs that begin before a -/
def rwX (p : Nat → Nat → Bool) (S K N : Nat) (v : Bool) (k a : Nat) : List Ru := rowX (fun y => runL (p y) S K) N v k (runX (p k) S K a)
theorem rwX_zero (p : Nat → Nat → Bool) (S K N : Nat) (v : Bool) (k : Nat) : rwX p S K N v k 0 = [] := rfl
theorem rwX_skip {p : Nat → Nat → Bool} {S K N : Nat} {v : Bool} {k a b : Nat} (hK : 1 ≤ K) (ha : a < S) (h0 : a = 0 ∨ p k (a - 1) = false ∨ p k a = false) (hb : b = endR (p k) a (S - a)) (h : ¬ (K ≤ b - a ∧ (k = 0 ∨ (a, b) ∉ runL (p (k - 1)) S K))) : rwX p S K N v k (max b (a + 1)) = rwX p S K N v k a := by
 unfold rwX
 rw [runX_stepR hK ha h0 hb, rowX_app]
 by_cases h1 : K ≤ b - a
 ·rw [if_pos h1, rowX_not fun h2 => h ⟨h1, h2⟩, List.append_nil]
 ·rw [if_neg h1, rowX_nil, List.append_nil]
theorem rwX_put {p : Nat → Nat → Bool} {S K N : Nat} {v : Bool} {k a b t : Nat} (hK : 1 ≤ K) (ha : a < S) (h0 : a = 0 ∨ p k (a - 1) = false ∨ p k a = false) (hb : b = endR (p k) a (S - a)) (h1 : K ≤ b - a) (h2 : k = 0 ∨ (a, b) ∉ runL (p (k - 1)) S K) (hk : k < N) (ht : k + t ≤ N) (h3 : ∀ y, k ≤ y → y < k + t → (a, b) ∈ runL (p y) S K) (h4 : k + t < N → (a, b) ∉ runL (p (k + t)) S K) :
  rwX p S K N v k (max b (a + 1)) = rwX p S K N v k a ++ [mkR v k t (a, b)] := by
 unfold rwX
 rw [runX_stepR hK ha h0 hb, rowX_app, if_pos h1, rowX_one (R := fun y => runL (p y) S K) h2 hk ht h3 h4]
theorem rwX_all {p : Nat → Nat → Bool} {S K N : Nat} {v : Bool} {k : Nat} : linK (fun y => runL (p y) S K) N v k ++ rwX p S K N v k S = linK (fun y => runL (p y) S K) N v (k + 1) := by
 rw [linK_succ]; rfl
theorem rwX_own {p : Nat → Nat → Bool} {S K k a b : Nat} (ha : a < S) (h0 : a = 0 ∨ p k (a - 1) = false ∨ p k a = false) (hb : b = endR (p k) a (S - a)) (h1 : K ≤ b - a) (hK : 1 ≤ K) : (a, b) ∈ runL (p k) S K := by
 rw [mem_runL]
 have hpa : p k a = true := by
  obtain ⟨g1, g2⟩ := endR_ge (p k) (S - a) a
  exact endR_in (p k) (S - a) a a (Nat.le_refl _) (by rw [← hb]; omega)
 refine ⟨ha, hpa, ?_, hb, h1⟩
 rcases h0 with h | h | h
 ·exact .inl h
 ·exact .inr h
 ·rw [hpa] at h; cases h
set_option maxRecDepth 100000 in
set_option maxHeartbeats 8000000 in
theorem RLines_g (W H : Nat) (d : List Bool) (A : Option Addr) (c : Nat) (v : Bool) (K : Nat) {w : World} (hd : BoK.Rd w A c d) (hl : d.length = W * H) (hW : W ≤ 4096) (hH : H ≤ 4096) (hK1 : 1 ≤ K) (hK2 : K ≤ 4096) :
  Calls Tryz.prog 30 #[.agg #[.int .i64 W, .int .i64 H, .slice A d.length c], .bool v, .int .i64 K] w (RuK.Ret w (linR (fun y => runL (dirP W d v y) (dirS W H v) K) (dirS H W v) v)) := by
 have HA := hid fun (k x : Nat) (hk : k < dirS H W v) (hx : x < dirS W H v) (V : World) (hv : Below w.heap.size w V) => RAt_g W H d A c v k x (hd.below hv) hl hW hH hk hx
 have HR := hid fun (k a b : Nat) (hk : k < dirS H W v) (hab : K ≤ b - a) (hb : b ≤ dirS W H v) (V : World) (hv : Below w.heap.size w V) => (show Calls Tryz.prog 57 #[.agg #[.int .i64 W, .int .i64 H, .slice A d.length c], .bool v, .int .i64 k, .int .i64 a, .int .i64 b] V (RetB V (decide ((a, b) ∈ runL (dirP W d v k) (dirS W H v) K))) from by
  rw [← runB_mem hK1 hab hb]; exact RRun_g W H d A c v k a b (hd.below hv) hl hW hH hk (by omega) hb)
 have hSi := hid (show dirS W H v = if v then H else W from rfl)
 have hNi := hid (show dirS H W v = if v then W else H from rfl)
 have hS4 : dirS W H v ≤ 4096 := by unfold dirS; cases v <;> simp <;> omega
 have hN4 : dirS H W v ≤ 4096 := by unfold dirS; cases v <;> simp <;> omega
 generalize dirP W d v = p at *
 generalize dirS W H v = S at *
 generalize dirS H W v = N at *
 rw [← linK_all]
 have hlen := hid fun (k a : Nat) (hk : k < N) (ha : a ≤ S) => (show (linK (fun y => runL (p y) S K) N v k ++ rwX p S K N v k a).length ≤ 100000000 from by
  have h1 := linK_len (R := fun y => runL (p y) S K) (h := N) (v := v) (S := S) (fun y => runL_len _ _ _) k
  have h2 : (rwX p S K N v k a).length ≤ a := Nat.le_trans (rowX_len ..) (runX_len ..)
  have h3 : k * S ≤ 4096 * 4096 := Nat.mul_le_mul (by omega) hS4
  rw [List.length_append]; omega)
 have hz := hid (rwX_zero p S K N v)
 have hsk := hid fun (k a b : Nat) ha h0 hb h => rwX_skip (p := p) (S := S) (K := K) (N := N) (v := v) (k := k) (a := a) (b := b) hK1 ha h0 hb h
 have hpu := hid fun (k a b t : Nat) ha h0 hb h1 h2 hk ht h3 h4 => rwX_put (p := p) (S := S) (K := K) (N := N) (v := v) (k := k) (a := a) (b := b) (t := t) hK1 ha h0 hb h1 h2 hk ht h3 h4
 have hall := hid fun (k : Nat) => rwX_all (p := p) (S := S) (K := K) (N := N) (v := v) (k := k)
 have hown := hid fun (k a b : Nat) ha h0 hb h1 => rwX_own (p := p) (S := S) (K := K) (k := k) (a := a) (b := b) ha h0 hb h1 hK1
 have hL0 : linK (fun y => runL (p y) S K) N v 0 = [] := rfl
 generalize linK (fun y => runL (p y) S K) N v = LK at *
 generalize rwX p S K N v = RX at *
 have cc := Nat.le_trans hd.cap hd.max
 clear hd hl
 generalize d.length = n at *
 have hmx := fun (a b : Int) (W : World) => run_max2' (P := Tryz.prog) W #[3, 3] 3 a b
 go_enter Tryz.func30, Tryz.ntmps30
 go_upto_region 1 with fail
 refine enterR (P := fun u => Code.wp _ _ _ _ u) (c := [.int .i64 W, .int .i64 H, .slice A n c]) ?_
 intro u HB r0 zn0 hsz
 have c0 : u.cell? ⟨w.heap.size, 0, none⟩ = some (.int .i64 W) := r0 0 _ rfl
 have c1 : u.cell? ⟨w.heap.size, 1, none⟩ = some (.int .i64 H) := r0 1 _ rfl
 have c2 : u.cell? ⟨w.heap.size, 2, none⟩ = some (.slice A n c) := r0 2 _ rfl
 clear r0 zn0 hsz
 go_upto_region 2 with fail
 go_quiet (fail)
 have hv3 : Below u.heap.size u (u.drewN nq) := below_drewN (Below.refl _ _) _
 generalize u.drewN nq = w3 at hv3 ⊢
 replace c0 := keep_cell hv3 c0
 replace c1 := keep_cell hv3 c1
 replace c2 := keep_cell hv3 c2
 replace HB := bel_step HB hv3
 go_upto_if 18 with fail
 go_cut [8, 9] (fun s8 s9 wx => s8 = .int .i64 S ∧ s9 = .int .i64 N ∧ Below w3.heap.size w3 wx)
 case first =>
  clear HA HR hlen hz hsk hpu hall hown hmx
  cases v
  ·obtain rfl : S = W := by have := hSi.out; simpa using this
   obtain rfl : N = H := by have := hNi.out; simpa using this
   clear hSi hNi
   go_wp2_with fail
   go_meet
   exact ⟨rfl, rfl, Below.refl _ _⟩
  ·obtain rfl : S = H := by have := hSi.out; simpa using this
   obtain rfl : N = W := by have := hNi.out; simpa using this
   clear hSi hNi
   go_upto_region 4 with fail
   go_quiet (fail)
   have hv2 : Below w3.heap.size w3 (w3.drewN nq) := below_drewN (Below.refl _ _) _
   generalize w3.drewN nq = w4 at hv2 ⊢
   clear c0 c1 c2
   go_wp2_with fail
   go_meet
   exact ⟨rfl, rfl, hv2⟩
 case rest =>
  obtain ⟨rfl, rfl, hv⟩ := hcut
  clear hSi hNi
  replace c0 := keep_cell hv c0
  replace c1 := keep_cell hv c1
  replace c2 := keep_cell hv c2
  replace HB := bel_step HB hv
  have hKp := hid fun (V : World) (hb : Below wc.heap.size wc V) => And.intro (And.intro (And.intro (keep_cell hb c0) (keep_cell hb c1)) (keep_cell hb c2)) (bel_step HB hb)
  have hwz := HB.size
  have hO0 : RuK.Own wc wc.heap.size (.slice none 0 0) (LK 0) := by rw [hL0]; exact Knd.Own.nil _ _
  clear c0 c1 c2 hv hv3 hL0
  go_wp2
  go_loopw [10, 7] (fun s10 s7 wr => ∃ k : Nat, s10 = .int .i64 k ∧ k ≤ N ∧ RuK.Own wr wc.heap.size s7 (LK k) ∧ Below wc.heap.size wc wr) (fun s10 _ _ => N - (intOf s10).toNat)
  case atStart => exact ⟨0, rfl, by omega, hO0, Below.refl _ _⟩
  case round =>
   clear hO0
   obtain ⟨k, rfl, hk, hO, hbk⟩ := hrel
   by_cases hkn : k < N
   ·have hki : (k : Int) < (N : Int) := by omega
    have hO1 : RuK.Own wr wc.heap.size u7 (LK k ++ RX k 0) := by rw [hz.out, List.append_nil]; exact hO
    clear hO
    go_wp2
    obtain ⟨w0, hw0⟩ : ∃ w0, w0 = wr := ⟨_, rfl⟩
    subst hw0
    go_loopw [11, 7] (fun s11 s7 wr => ∃ a : Nat, s11 = .int .i64 a ∧ a ≤ S ∧ Hid (S ≤ a ∨ a = 0 ∨ p k (a - 1) = false ∨ p k a = false) ∧ RuK.Own wr wc.heap.size s7 (LK k ++ RX k a) ∧ Below wc.heap.size wc wr) (fun s11 _ _ => S - (intOf s11).toNat)
    case atStart => exact ⟨0, rfl, by omega, .inr (.inl rfl), hO1, hbk⟩
    case round =>
     clear hO1 hbk
     obtain ⟨a, rfl, ha, hX, hOw, hbz⟩ := hrel
     by_cases haS : a < S
     ·have hai : (a : Int) < (S : Int) := by omega
      have hX3 := hid (show a = 0 ∨ p k (a - 1) = false ∨ p k a = false from hX.out.elim (fun h => by omega) id)
      clear hX
      go_wp2
      obtain ⟨w1, hw1⟩ : ∃ w0, w0 = wr := ⟨_, rfl⟩
      subst hw1
      go_loopw [12] (fun s12 wz => ∃ y : Nat, s12 = .int .i64 y ∧ y ≤ S ∧ Hid (Dk (p k) a y) ∧ Below w1.heap.size w1 wz) (fun s12 _ => S - (intOf s12).toNat)
      case atStart => exact ⟨a, rfl, by omega, hid ⟨Nat.le_refl _, fun z h1 h2 => by omega⟩, Below.refl _ _⟩
      case round =>
       obtain ⟨y, rfl, hy, hD, hby⟩ := hrel
       replace hOw := hOw.below hby
       replace hbz := bel_step hbz hby
       obtain ⟨⟨⟨c0, c1⟩, c2⟩, HBt⟩ := hKp.out wr hbz
       have hay := hD.out.le
       by_cases hyS : y < S
       ·have hyi : (y : Int) < (S : Int) := by omega
        obtain ⟨q, hq⟩ : ∃ q, p k y = q := ⟨_, rfl⟩
        have HAt := hid (HA.out k y hkn hyS wr HBt)
        rw [hq] at HAt
        clear HBt
        cases q
        ·have hE := hid (show y = endR (p k) a (S - a) from (endR_uni hD.out.le (by omega) hD.out.all (fun _ => hq)).symm)
         clear hq hD
         go_wp2_with fail
         refine HAt.out.mono ?_
         rintro e w2 ⟨rfl, hv⟩
         replace hOw := hOw.below hv
         replace hbz := bel_step hbz hv
         clear hv HAt c0 c1 c2 hby
         have hnx := hid (show S ≤ max y (a + 1) ∨ max y (a + 1) = 0 ∨ p k (max y (a + 1) - 1) = false ∨ p k (max y (a + 1)) = false from by
          rcases runX_nextR haS hE.out with h | h | h
          ·exact .inl h
          ·exact .inr (.inr (.inl h))
          ·exact .inr (.inr (.inr h)))
         have hsub : IntKind.i64.wrap ((y : Int) - (a : Int)) = ((y - a : Nat) : Int) := by rw [IntKind.wrap_i64]; omega
         have hwa : IntKind.i64.wrap ((a : Int) + 1) = (a : Int) + 1 := by rw [IntKind.wrap_i64]; omega
         by_cases hkk : K ≤ y - a
         ·have hki2 : (K : Int) ≤ ((y - a : Nat) : Int) := by omega
          by_cases hk00 : k = 0
          ·have hk0i : ((k : Int) == 0) = true := by rw [beq_iff_eq]; omega
           have hk0 := hid (show k = 0 ∨ (a, y) ∉ runL (p (k - 1)) S K from .inl hk00)
           replace hk00 := hid hk00
           obtain ⟨m1, hm1⟩ : ∃ m, max y (a + 1) = m := ⟨_, rfl⟩
           have hmi : max (y : Int) ((a : Int) + 1) = (m1 : Int) := by omega
           have hms : m1 ≤ S := by omega
           have hma : a < m1 := by omega
           rw [hm1] at hnx
           replace hm1 := hid hm1
           go_upto_region 15 with fail
           refine enterR (P := fun u => Code.wp _ _ _ _ u) (c := [.bool v, .int .i64 (k : Int), .int .i64 1, .int .i64 (a : Int), .int .i64 (y : Int)]) ?_
           intro z hbz2 r5 z5 hsz5
           obtain ⟨g, hg⟩ : ∃ g, w2.heap.size = g := ⟨_, rfl⟩
           have hne := hid fun (kk : Nat) (e : u7.ownBlock = some kk) => (show kk ≠ g from by have := (hOw.lt e).2; omega)
           have hOz := hOw.below hbz2
           have hbz0 := bel_step hbz hbz2
           have hzg := hbz.size
           have hty0 := hid fun (y' : Nat) (h1 : k ≤ y') (h2 : y' < k + 1) => (show (a, y) ∈ runL (p y') S K from by
            obtain rfl : y' = k := by omega
            exact hown.out y' a y haS hX3.out hE.out hkk)
           rw [hg] at r5 z5 hzg ⊢
           clear hOw hbz hbz2 hsz5 hg
           go_loopw [] (fun wt => ∃ t : Nat, 1 ≤ t ∧ k + t ≤ N ∧ Hid (∀ y', k ≤ y' → y' < k + t → (a, y) ∈ runL (p y') S K) ∧ wt.rangeAt g 0 [.bool v, .int .i64 (k : Int), .int .i64 (t : Int), .int .i64 (a : Int), .int .i64 (y : Int)] ∧ Zn wt g ∧ RuK.Own wt wc.heap.size u7 (LK k ++ RX k a) ∧ Below wc.heap.size wc wt) (fun wt => N - thkM wt g)
           case atStart => exact ⟨1, Nat.le_refl _, by omega, hty0, r5, z5, hOz, hbz0⟩
           case round =>
            clear hOz hbz0 hty0 r5 z5
            obtain ⟨t, ht1, ht2, hty, hr5, hz5, hOw, hbz⟩ := hrel
            obtain ⟨wt, hwt⟩ : ∃ x, x = wr := ⟨_, rfl⟩
            subst hwt
            have d2 : wt.cell? ⟨g, 2, none⟩ = some (.int .i64 (t : Int)) := hr5 2 _ rfl
            have hfg := hz5.fr
            have htk := thkM_eq d2
            obtain ⟨⟨⟨c0, c1⟩, c2⟩, HBt⟩ := hKp.out wt hbz
            have hw4 : IntKind.i64.wrap ((k : Int) + (t : Int)) = ((k + t : Nat) : Int) := by rw [IntKind.wrap_i64]; omega
            have hw5 : IntKind.i64.wrap ((t : Int) + 1) = ((t + 1 : Nat) : Int) := by rw [IntKind.wrap_i64]; omega
            obtain ⟨kt, hkt⟩ : ∃ x, k + t = x := ⟨_, rfl⟩
            obtain ⟨t1, ht1e⟩ : ∃ x, t + 1 = x := ⟨_, rfl⟩
            rw [hkt] at hw4
            rw [ht1e] at hw5
            by_cases hkt2 : kt < N
            ·have hkti : (kt : Int) < (N : Int) := by omega
             obtain ⟨q, hq⟩ : ∃ q, decide ((a, y) ∈ runL (p kt) S K) = q := ⟨_, rfl⟩
             have HRt := hid (HR.out kt a y hkt2 hkk (by omega) wt HBt)
             rw [hq] at HRt
             cases q
             ·have hex := hid fun (h : k + t < N) => (show (a, y) ∉ runL (p (k + t)) S K from by rw [hkt]; exact of_decide_eq_false hq)
              clear hq
              go_wp2_with fail
              refine HRt.out.mono ?_
              rintro e w5 ⟨rfl, hv⟩
              clear HRt
              replace hr5 := rng_below hr5 hv
              replace hz5 := hz5.below hv
              replace hOw := hOw.below hv
              replace hbz := bel_step hbz hv
              obtain ⟨wt, hwt⟩ : ∃ x, x = w5 := ⟨_, rfl⟩
              subst hwt
              clear hv d2 hfg htk c0 c1 c2 HBt hw5 ht1e
              have hst := hid (show RX k m1 = RX k a ++ [mkR v k t (a, y)] from by rw [← hm1.out]; exact hpu.out k a y t haS hX3.out hE.out hkk hk0.out hkn ht2 hty.out hex.out)
              have hlk := hlen.out k a hkn (by omega)
              have p0 : wt.cell? ⟨g, 0, none⟩ = some (.bool v) := hr5 0 _ rfl
              have p1 : wt.cell? ⟨g, 1, none⟩ = some (.int .i64 (k : Int)) := hr5 1 _ rfl
              have p2 : wt.cell? ⟨g, 2, none⟩ = some (.int .i64 (t : Int)) := hr5 2 _ rfl
              have p3 : wt.cell? ⟨g, 3, none⟩ = some (.int .i64 (a : Int)) := hr5 3 _ rfl
              have p4 : wt.cell? ⟨g, 4, none⟩ = some (.int .i64 (y : Int)) := hr5 4 _ rfl
              have hOx := hOw.below ((Below.refl _ _).alloc (Nat.le_refl _) (.cells #[.bool v, .int .i64 (k : Int), .int .i64 (t : Int), .int .i64 (a : Int), .int .i64 (y : Int)] 53))
              have hBx := hbz.alloc hbz.size (.cells #[.bool v, .int .i64 (k : Int), .int .i64 (t : Int), .int .i64 (a : Int), .int .i64 (y : Int)] 53)
              have hr := rng_alloc (w := wt) (cs := [.bool v, .int .i64 (k : Int), .int .i64 (t : Int), .int .i64 (a : Int), .int .i64 (y : Int)]) (t := 53)
              have hzz := hbz.size
              clear HR hsk hpu hown hty hex hr5 hz5 hOw hbz
              go_wp2_with (at_builtin; go_loud (refine Knd.app1 RuKo rfl (.tmp 89) (.tmp 91) rfl wc.heap.size u7 (LK k ++ RX k a) (mkR v k t (a, y)) wt.heap.size rfl hOx rfl hr hlk (by simp; omega) ?_); intro v' w' hO' hg' hat'; have hb' := hid (Knd.grown hBx hOx hg' (by simp; omega) (Nat.le_refl _)); have hO' := hid hO'; clear hg' hat' hOx hBx hr)
              go_roundw
              case rel => exact ⟨m1, by first | rfl | go_num, hms, hnx, by rw [hst.out, ← List.append_assoc]; exact hO'.out, hb'.out⟩
              case measure => simp [intOf]; omega
             ·have hty2 := hid fun (y' : Nat) (h1 : k ≤ y') (h2 : y' < k + t1) => (show (a, y) ∈ runL (p y') S K from by
               by_cases e : y' = kt
               ·rw [e]; exact of_decide_eq_true hq
               ·exact hty.out y' h1 (by omega))
              clear hq
              go_wp2_with fail
              refine HRt.out.mono ?_
              rintro e w5 ⟨rfl, hv⟩
              clear HRt
              replace d2 := keep_cell hv d2
              replace hr5 := rng_below hr5 hv
              replace hz5 := hz5.below hv
              replace hOw := hOw.below hv
              replace hbz := bel_step hbz hv
              have hfg := hz5.fr
              have hfin := hid (And.intro (rng_thick (x := .int .i64 (t1 : Int)) hr5) (And.intro (hz5.set_ (k := g) (i := 2) (v := .int .i64 (t1 : Int))) (And.intro (hOw.setOff (i := 2) (u := .int .i64 (t1 : Int)) hne.out) (below_set hbz hzg 2 (.int .i64 (t1 : Int))))))
              have hmz := hid (thkM_eq (at_set (u := .int .i64 (t1 : Int)) d2))
              clear hv c0 c1 c2 HBt hr5 hz5 hOw hbz hty
              go_wp2
              go_roundw
              case rel => exact ⟨t1, by omega, by omega, hty2, hfin.out.1, hfin.out.2.1, hfin.out.2.2.1, hfin.out.2.2.2⟩
              case measure =>
               rw [hmz.out, htk]; omega
            ·have hkti : ¬ (kt : Int) < (N : Int) := by omega
             have hex := hid fun (h : k + t < N) => (show (a, y) ∉ runL (p (k + t)) S K from by omega)
             clear d2 hfg htk c0 c1 c2 HBt hw5 ht1e
             have hst := hid (show RX k m1 = RX k a ++ [mkR v k t (a, y)] from by rw [← hm1.out]; exact hpu.out k a y t haS hX3.out hE.out hkk hk0.out hkn ht2 hty.out hex.out)
             have hlk := hlen.out k a hkn (by omega)
             have p0 : wt.cell? ⟨g, 0, none⟩ = some (.bool v) := hr5 0 _ rfl
             have p1 : wt.cell? ⟨g, 1, none⟩ = some (.int .i64 (k : Int)) := hr5 1 _ rfl
             have p2 : wt.cell? ⟨g, 2, none⟩ = some (.int .i64 (t : Int)) := hr5 2 _ rfl
             have p3 : wt.cell? ⟨g, 3, none⟩ = some (.int .i64 (a : Int)) := hr5 3 _ rfl
             have p4 : wt.cell? ⟨g, 4, none⟩ = some (.int .i64 (y : Int)) := hr5 4 _ rfl
             have hOx := hOw.below ((Below.refl _ _).alloc (Nat.le_refl _) (.cells #[.bool v, .int .i64 (k : Int), .int .i64 (t : Int), .int .i64 (a : Int), .int .i64 (y : Int)] 53))
             have hBx := hbz.alloc hbz.size (.cells #[.bool v, .int .i64 (k : Int), .int .i64 (t : Int), .int .i64 (a : Int), .int .i64 (y : Int)] 53)
             have hr := rng_alloc (w := wt) (cs := [.bool v, .int .i64 (k : Int), .int .i64 (t : Int), .int .i64 (a : Int), .int .i64 (y : Int)]) (t := 53)
             have hzz := hbz.size
             clear HR hsk hpu hown hty hex hr5 hz5 hOw hbz
             go_wp2_with (at_builtin; go_loud (refine Knd.app1 RuKo rfl (.tmp 89) (.tmp 91) rfl wc.heap.size u7 (LK k ++ RX k a) (mkR v k t (a, y)) wt.heap.size rfl hOx rfl hr hlk (by simp; omega) ?_); intro v' w' hO' hg' hat'; have hb' := hid (Knd.grown hBx hOx hg' (by simp; omega) (Nat.le_refl _)); have hO' := hid hO'; clear hg' hat' hOx hBx hr)
             go_roundw
             case rel => exact ⟨m1, by first | rfl | go_num, hms, hnx, by rw [hst.out, ← List.append_assoc]; exact hO'.out, hb'.out⟩
             case measure => simp [intOf]; omega
          ·have hk0i : ((k : Int) == 0) = false := by rw [beq_eq_false_iff_ne]; omega
           have hwk : IntKind.i64.wrap ((k : Int) - 1) = ((k - 1 : Nat) : Int) := by rw [IntKind.wrap_i64]; omega
           obtain ⟨⟨⟨c0, c1⟩, c2⟩, HBt⟩ := hKp.out w2 hbz
           have HRt := hid (HR.out (k - 1) a y (by omega) hkk (by omega) w2 HBt)
           obtain ⟨q, hq⟩ : ∃ q, decide ((a, y) ∈ runL (p (k - 1)) S K) = q := ⟨_, rfl⟩
           rw [hq] at HRt
           obtain ⟨kk, hkk1⟩ : ∃ x, k - 1 = x := ⟨_, rfl⟩
           rw [hkk1] at HRt hwk
           go_wp2_with fail
           refine HRt.out.mono ?_
           rintro e w6 ⟨rfl, hv⟩
           replace hOw := hOw.below hv
           replace hbz := bel_step hbz hv
           clear hv HRt HBt c0 c1 c2
           cases q
           ·have hk0 := hid (show k = 0 ∨ (a, y) ∉ runL (p (k - 1)) S K from .inr (of_decide_eq_false hq))
            clear hq
            obtain ⟨m1, hm1⟩ : ∃ m, max y (a + 1) = m := ⟨_, rfl⟩
            have hmi : max (y : Int) ((a : Int) + 1) = (m1 : Int) := by omega
            have hms : m1 ≤ S := by omega
            have hma : a < m1 := by omega
            rw [hm1] at hnx
            replace hm1 := hid hm1
            go_upto_region 15 with fail
            refine enterR (P := fun u => Code.wp _ _ _ _ u) (c := [.bool v, .int .i64 (k : Int), .int .i64 1, .int .i64 (a : Int), .int .i64 (y : Int)]) ?_
            intro z hbz2 r5 z5 hsz5
            obtain ⟨g, hg⟩ : ∃ g, w6.heap.size = g := ⟨_, rfl⟩
            have hne := hid fun (kk : Nat) (e : u7.ownBlock = some kk) => (show kk ≠ g from by have := (hOw.lt e).2; omega)
            have hOz := hOw.below hbz2
            have hbz0 := bel_step hbz hbz2
            have hzg := hbz.size
            have hty0 := hid fun (y' : Nat) (h1 : k ≤ y') (h2 : y' < k + 1) => (show (a, y) ∈ runL (p y') S K from by
             obtain rfl : y' = k := by omega
             exact hown.out y' a y haS hX3.out hE.out hkk)
            rw [hg] at r5 z5 hzg ⊢
            clear hOw hbz hbz2 hsz5 hg
            go_loopw [] (fun wt => ∃ t : Nat, 1 ≤ t ∧ k + t ≤ N ∧ Hid (∀ y', k ≤ y' → y' < k + t → (a, y) ∈ runL (p y') S K) ∧ wt.rangeAt g 0 [.bool v, .int .i64 (k : Int), .int .i64 (t : Int), .int .i64 (a : Int), .int .i64 (y : Int)] ∧ Zn wt g ∧ RuK.Own wt wc.heap.size u7 (LK k ++ RX k a) ∧ Below wc.heap.size wc wt) (fun wt => N - thkM wt g)
            case atStart => exact ⟨1, Nat.le_refl _, by omega, hty0, r5, z5, hOz, hbz0⟩
            case round =>
             clear hOz hbz0 hty0 r5 z5
             obtain ⟨t, ht1, ht2, hty, hr5, hz5, hOw, hbz⟩ := hrel
             obtain ⟨wt, hwt⟩ : ∃ x, x = wr := ⟨_, rfl⟩
             subst hwt
             have d2 : wt.cell? ⟨g, 2, none⟩ = some (.int .i64 (t : Int)) := hr5 2 _ rfl
             have hfg := hz5.fr
             have htk := thkM_eq d2
             obtain ⟨⟨⟨c0, c1⟩, c2⟩, HBt⟩ := hKp.out wt hbz
             have hw4 : IntKind.i64.wrap ((k : Int) + (t : Int)) = ((k + t : Nat) : Int) := by rw [IntKind.wrap_i64]; omega
             have hw5 : IntKind.i64.wrap ((t : Int) + 1) = ((t + 1 : Nat) : Int) := by rw [IntKind.wrap_i64]; omega
             obtain ⟨kt, hkt⟩ : ∃ x, k + t = x := ⟨_, rfl⟩
             obtain ⟨t1, ht1e⟩ : ∃ x, t + 1 = x := ⟨_, rfl⟩
             rw [hkt] at hw4
             rw [ht1e] at hw5
             by_cases hkt2 : kt < N
             ·have hkti : (kt : Int) < (N : Int) := by omega
              obtain ⟨q, hq⟩ : ∃ q, decide ((a, y) ∈ runL (p kt) S K) = q := ⟨_, rfl⟩
              have HRt := hid (HR.out kt a y hkt2 hkk (by omega) wt HBt)
              rw [hq] at HRt
              cases q
              ·have hex := hid fun (h : k + t < N) => (show (a, y) ∉ runL (p (k + t)) S K from by rw [hkt]; exact of_decide_eq_false hq)
               clear hq
               go_wp2_with fail
               refine HRt.out.mono ?_
               rintro e w5 ⟨rfl, hv⟩
               clear HRt
               replace hr5 := rng_below hr5 hv
               replace hz5 := hz5.below hv
               replace hOw := hOw.below hv
               replace hbz := bel_step hbz hv
               obtain ⟨wt, hwt⟩ : ∃ x, x = w5 := ⟨_, rfl⟩
               subst hwt
               clear hv d2 hfg htk c0 c1 c2 HBt hw5 ht1e
               have hst := hid (show RX k m1 = RX k a ++ [mkR v k t (a, y)] from by rw [← hm1.out]; exact hpu.out k a y t haS hX3.out hE.out hkk hk0.out hkn ht2 hty.out hex.out)
               have hlk := hlen.out k a hkn (by omega)
               have p0 : wt.cell? ⟨g, 0, none⟩ = some (.bool v) := hr5 0 _ rfl
               have p1 : wt.cell? ⟨g, 1, none⟩ = some (.int .i64 (k : Int)) := hr5 1 _ rfl
               have p2 : wt.cell? ⟨g, 2, none⟩ = some (.int .i64 (t : Int)) := hr5 2 _ rfl
               have p3 : wt.cell? ⟨g, 3, none⟩ = some (.int .i64 (a : Int)) := hr5 3 _ rfl
               have p4 : wt.cell? ⟨g, 4, none⟩ = some (.int .i64 (y : Int)) := hr5 4 _ rfl
               have hOx := hOw.below ((Below.refl _ _).alloc (Nat.le_refl _) (.cells #[.bool v, .int .i64 (k : Int), .int .i64 (t : Int), .int .i64 (a : Int), .int .i64 (y : Int)] 53))
               have hBx := hbz.alloc hbz.size (.cells #[.bool v, .int .i64 (k : Int), .int .i64 (t : Int), .int .i64 (a : Int), .int .i64 (y : Int)] 53)
               have hr := rng_alloc (w := wt) (cs := [.bool v, .int .i64 (k : Int), .int .i64 (t : Int), .int .i64 (a : Int), .int .i64 (y : Int)]) (t := 53)
               have hzz := hbz.size
               clear HR hsk hpu hown hty hex hr5 hz5 hOw hbz
               go_wp2_with (at_builtin; go_loud (refine Knd.app1 RuKo rfl (.tmp 89) (.tmp 91) rfl wc.heap.size u7 (LK k ++ RX k a) (mkR v k t (a, y)) wt.heap.size rfl hOx rfl hr hlk (by simp; omega) ?_); intro v' w' hO' hg' hat'; have hb' := hid (Knd.grown hBx hOx hg' (by simp; omega) (Nat.le_refl _)); have hO' := hid hO'; clear hg' hat' hOx hBx hr)
               go_roundw
               case rel => exact ⟨m1, by first | rfl | go_num, hms, hnx, by rw [hst.out, ← List.append_assoc]; exact hO'.out, hb'.out⟩
               case measure => simp [intOf]; omega
              ·have hty2 := hid fun (y' : Nat) (h1 : k ≤ y') (h2 : y' < k + t1) => (show (a, y) ∈ runL (p y') S K from by
                by_cases e : y' = kt
                ·rw [e]; exact of_decide_eq_true hq
                ·exact hty.out y' h1 (by omega))
               clear hq
               go_wp2_with fail
               refine HRt.out.mono ?_
               rintro e w5 ⟨rfl, hv⟩
               clear HRt
               replace d2 := keep_cell hv d2
               replace hr5 := rng_below hr5 hv
               replace hz5 := hz5.below hv
               replace hOw := hOw.below hv
               replace hbz := bel_step hbz hv
               have hfg := hz5.fr
               have hfin := hid (And.intro (rng_thick (x := .int .i64 (t1 : Int)) hr5) (And.intro (hz5.set_ (k := g) (i := 2) (v := .int .i64 (t1 : Int))) (And.intro (hOw.setOff (i := 2) (u := .int .i64 (t1 : Int)) hne.out) (below_set hbz hzg 2 (.int .i64 (t1 : Int))))))
               have hmz := hid (thkM_eq (at_set (u := .int .i64 (t1 : Int)) d2))
               clear hv c0 c1 c2 HBt hr5 hz5 hOw hbz hty
               go_wp2
               go_roundw
               case rel => exact ⟨t1, by omega, by omega, hty2, hfin.out.1, hfin.out.2.1, hfin.out.2.2.1, hfin.out.2.2.2⟩
               case measure =>
                rw [hmz.out, htk]; omega
             ·have hkti : ¬ (kt : Int) < (N : Int) := by omega
              have hex := hid fun (h : k + t < N) => (show (a, y) ∉ runL (p (k + t)) S K from by omega)
              clear d2 hfg htk c0 c1 c2 HBt hw5 ht1e
              have hst := hid (show RX k m1 = RX k a ++ [mkR v k t (a, y)] from by rw [← hm1.out]; exact hpu.out k a y t haS hX3.out hE.out hkk hk0.out hkn ht2 hty.out hex.out)
              have hlk := hlen.out k a hkn (by omega)
              have p0 : wt.cell? ⟨g, 0, none⟩ = some (.bool v) := hr5 0 _ rfl
              have p1 : wt.cell? ⟨g, 1, none⟩ = some (.int .i64 (k : Int)) := hr5 1 _ rfl
              have p2 : wt.cell? ⟨g, 2, none⟩ = some (.int .i64 (t : Int)) := hr5 2 _ rfl
              have p3 : wt.cell? ⟨g, 3, none⟩ = some (.int .i64 (a : Int)) := hr5 3 _ rfl
              have p4 : wt.cell? ⟨g, 4, none⟩ = some (.int .i64 (y : Int)) := hr5 4 _ rfl
              have hOx := hOw.below ((Below.refl _ _).alloc (Nat.le_refl _) (.cells #[.bool v, .int .i64 (k : Int), .int .i64 (t : Int), .int .i64 (a : Int), .int .i64 (y : Int)] 53))
              have hBx := hbz.alloc hbz.size (.cells #[.bool v, .int .i64 (k : Int), .int .i64 (t : Int), .int .i64 (a : Int), .int .i64 (y : Int)] 53)
              have hr := rng_alloc (w := wt) (cs := [.bool v, .int .i64 (k : Int), .int .i64 (t : Int), .int .i64 (a : Int), .int .i64 (y : Int)]) (t := 53)
              have hzz := hbz.size
              clear HR hsk hpu hown hty hex hr5 hz5 hOw hbz
              go_wp2_with (at_builtin; go_loud (refine Knd.app1 RuKo rfl (.tmp 89) (.tmp 91) rfl wc.heap.size u7 (LK k ++ RX k a) (mkR v k t (a, y)) wt.heap.size rfl hOx rfl hr hlk (by simp; omega) ?_); intro v' w' hO' hg' hat'; have hb' := hid (Knd.grown hBx hOx hg' (by simp; omega) (Nat.le_refl _)); have hO' := hid hO'; clear hg' hat' hOx hBx hr)
              go_roundw
              case rel => exact ⟨m1, by first | rfl | go_num, hms, hnx, by rw [hst.out, ← List.append_assoc]; exact hO'.out, hb'.out⟩
              case measure => simp [intOf]; omega
           ·have hst := hid (hsk.out k a y haS hX3.out hE.out (fun h => by
             rcases h.2 with h2 | h2
             ·exact hk00 h2
             ·exact h2 (of_decide_eq_true hq)))
            clear hq
            obtain ⟨m1, hm1⟩ : ∃ m, max y (a + 1) = m := ⟨_, rfl⟩
            have hmi : max (y : Int) ((a : Int) + 1) = (m1 : Int) := by omega
            have hms : m1 ≤ S := by omega
            have hma : a < m1 := by omega
            rw [hm1] at hst hnx
            clear hm1 HR hsk hpu hown
            go_wp2
            go_roundw
            case rel => exact ⟨m1, by first | rfl | go_num, hms, hnx, by rw [hst.out]; exact hOw, hbz⟩
            case measure => simp [intOf]; omega
         ·have hki2 : ¬ (K : Int) ≤ ((y - a : Nat) : Int) := by omega
          have hst := hid (hsk.out k a y haS hX3.out hE.out (fun h => hkk h.1))
          obtain ⟨m1, hm1⟩ : ∃ m, max y (a + 1) = m := ⟨_, rfl⟩
          have hmi : max (y : Int) ((a : Int) + 1) = (m1 : Int) := by omega
          have hms : m1 ≤ S := by omega
          have hma : a < m1 := by omega
          rw [hm1] at hst hnx
          clear hm1 HR hsk hpu hown
          go_wp2
          go_roundw
          case rel => exact ⟨m1, by first | rfl | go_num, hms, hnx, by rw [hst.out]; exact hOw, hbz⟩
          case measure => simp [intOf]; omega
        ·have hD2 := hid (hD.out.next hq)
         clear hq hD
         go_wp2_with fail
         refine HAt.out.mono ?_
         rintro e w2 ⟨rfl, hv⟩
         replace hby := bel_step hby hv
         clear hv HAt c0 c1 c2 HR hsk hpu hown
         go_wp2
         go_roundw
         case rel => exact ⟨y + 1, by go_num, by omega, hD2, hby⟩
         case measure => simp [intOf]; omega
       ·obtain rfl : S = y := by omega
        have hyi : ¬ (S : Int) < (S : Int) := by omega
        have hE := hid (show S = endR (p k) a (S - a) from (endR_uni hD.out.le (by omega) hD.out.all (fun h => by omega)).symm)
        clear hD HBt hby c0 c1 c2
        obtain ⟨w2, hw2⟩ : ∃ x, x = wr := ⟨_, rfl⟩
        subst hw2
        have hnx := hid (show S ≤ max S (a + 1) ∨ max S (a + 1) = 0 ∨ p k (max S (a + 1) - 1) = false ∨ p k (max S (a + 1)) = false from by
         rcases runX_nextR haS hE.out with h | h | h
         ·exact .inl h
         ·exact .inr (.inr (.inl h))
         ·exact .inr (.inr (.inr h)))
        have hsub : IntKind.i64.wrap ((S : Int) - (a : Int)) = ((S - a : Nat) : Int) := by rw [IntKind.wrap_i64]; omega
        have hwa : IntKind.i64.wrap ((a : Int) + 1) = (a : Int) + 1 := by rw [IntKind.wrap_i64]; omega
        by_cases hkk : K ≤ S - a
        ·have hki2 : (K : Int) ≤ ((S - a : Nat) : Int) := by omega
         by_cases hk00 : k = 0
         ·have hk0i : ((k : Int) == 0) = true := by rw [beq_iff_eq]; omega
          have hk0 := hid (show k = 0 ∨ (a, S) ∉ runL (p (k - 1)) S K from .inl hk00)
          replace hk00 := hid hk00
          obtain ⟨m1, hm1⟩ : ∃ m, max S (a + 1) = m := ⟨_, rfl⟩
          have hmi : max (S : Int) ((a : Int) + 1) = (m1 : Int) := by omega
          have hms : m1 ≤ S := by omega
          have hma : a < m1 := by omega
          rw [hm1] at hnx
          replace hm1 := hid hm1
          go_upto_region 15 with fail
          refine enterR (P := fun u => Code.wp _ _ _ _ u) (c := [.bool v, .int .i64 (k : Int), .int .i64 1, .int .i64 (a : Int), .int .i64 (S : Int)]) ?_
          intro z hbz2 r5 z5 hsz5
          obtain ⟨g, hg⟩ : ∃ g, w2.heap.size = g := ⟨_, rfl⟩
          have hne := hid fun (kk : Nat) (e : u7.ownBlock = some kk) => (show kk ≠ g from by have := (hOw.lt e).2; omega)
          have hOz := hOw.below hbz2
          have hbz0 := bel_step hbz hbz2
          have hzg := hbz.size
          have hty0 := hid fun (y' : Nat) (h1 : k ≤ y') (h2 : y' < k + 1) => (show (a, S) ∈ runL (p y') S K from by
           obtain rfl : y' = k := by omega
           exact hown.out y' a S haS hX3.out hE.out hkk)
          rw [hg] at r5 z5 hzg ⊢
          clear hOw hbz hbz2 hsz5 hg
          go_loopw [] (fun wt => ∃ t : Nat, 1 ≤ t ∧ k + t ≤ N ∧ Hid (∀ y', k ≤ y' → y' < k + t → (a, S) ∈ runL (p y') S K) ∧ wt.rangeAt g 0 [.bool v, .int .i64 (k : Int), .int .i64 (t : Int), .int .i64 (a : Int), .int .i64 (S : Int)] ∧ Zn wt g ∧ RuK.Own wt wc.heap.size u7 (LK k ++ RX k a) ∧ Below wc.heap.size wc wt) (fun wt => N - thkM wt g)
          case atStart => exact ⟨1, Nat.le_refl _, by omega, hty0, r5, z5, hOz, hbz0⟩
          case round =>
           clear hOz hbz0 hty0 r5 z5
           obtain ⟨t, ht1, ht2, hty, hr5, hz5, hOw, hbz⟩ := hrel
           obtain ⟨wt, hwt⟩ : ∃ x, x = wr := ⟨_, rfl⟩
           subst hwt
           have d2 : wt.cell? ⟨g, 2, none⟩ = some (.int .i64 (t : Int)) := hr5 2 _ rfl
           have hfg := hz5.fr
           have htk := thkM_eq d2
           obtain ⟨⟨⟨c0, c1⟩, c2⟩, HBt⟩ := hKp.out wt hbz
           have hw4 : IntKind.i64.wrap ((k : Int) + (t : Int)) = ((k + t : Nat) : Int) := by rw [IntKind.wrap_i64]; omega
           have hw5 : IntKind.i64.wrap ((t : Int) + 1) = ((t + 1 : Nat) : Int) := by rw [IntKind.wrap_i64]; omega
           obtain ⟨kt, hkt⟩ : ∃ x, k + t = x := ⟨_, rfl⟩
           obtain ⟨t1, ht1e⟩ : ∃ x, t + 1 = x := ⟨_, rfl⟩
           rw [hkt] at hw4
           rw [ht1e] at hw5
           by_cases hkt2 : kt < N
           ·have hkti : (kt : Int) < (N : Int) := by omega
            obtain ⟨q, hq⟩ : ∃ q, decide ((a, S) ∈ runL (p kt) S K) = q := ⟨_, rfl⟩
            have HRt := hid (HR.out kt a S hkt2 hkk (by omega) wt HBt)
            rw [hq] at HRt
            cases q
            ·have hex := hid fun (h : k + t < N) => (show (a, S) ∉ runL (p (k + t)) S K from by rw [hkt]; exact of_decide_eq_false hq)
             clear hq
             go_wp2_with fail
             refine HRt.out.mono ?_
             rintro e w5 ⟨rfl, hv⟩
             clear HRt
             replace hr5 := rng_below hr5 hv
             replace hz5 := hz5.below hv
             replace hOw := hOw.below hv
             replace hbz := bel_step hbz hv
             obtain ⟨wt, hwt⟩ : ∃ x, x = w5 := ⟨_, rfl⟩
             subst hwt
             clear hv d2 hfg htk c0 c1 c2 HBt hw5 ht1e
             have hst := hid (show RX k m1 = RX k a ++ [mkR v k t (a, S)] from by rw [← hm1.out]; exact hpu.out k a S t haS hX3.out hE.out hkk hk0.out hkn ht2 hty.out hex.out)
             have hlk := hlen.out k a hkn (by omega)
             have p0 : wt.cell? ⟨g, 0, none⟩ = some (.bool v) := hr5 0 _ rfl
             have p1 : wt.cell? ⟨g, 1, none⟩ = some (.int .i64 (k : Int)) := hr5 1 _ rfl
             have p2 : wt.cell? ⟨g, 2, none⟩ = some (.int .i64 (t : Int)) := hr5 2 _ rfl
             have p3 : wt.cell? ⟨g, 3, none⟩ = some (.int .i64 (a : Int)) := hr5 3 _ rfl
             have p4 : wt.cell? ⟨g, 4, none⟩ = some (.int .i64 (S : Int)) := hr5 4 _ rfl
             have hOx := hOw.below ((Below.refl _ _).alloc (Nat.le_refl _) (.cells #[.bool v, .int .i64 (k : Int), .int .i64 (t : Int), .int .i64 (a : Int), .int .i64 (S : Int)] 53))
             have hBx := hbz.alloc hbz.size (.cells #[.bool v, .int .i64 (k : Int), .int .i64 (t : Int), .int .i64 (a : Int), .int .i64 (S : Int)] 53)
             have hr := rng_alloc (w := wt) (cs := [.bool v, .int .i64 (k : Int), .int .i64 (t : Int), .int .i64 (a : Int), .int .i64 (S : Int)]) (t := 53)
             have hzz := hbz.size
             clear HR hsk hpu hown hty hex hr5 hz5 hOw hbz
             go_wp2_with (at_builtin; go_loud (refine Knd.app1 RuKo rfl (.tmp 89) (.tmp 91) rfl wc.heap.size u7 (LK k ++ RX k a) (mkR v k t (a, S)) wt.heap.size rfl hOx rfl hr hlk (by simp; omega) ?_); intro v' w' hO' hg' hat'; have hb' := hid (Knd.grown hBx hOx hg' (by simp; omega) (Nat.le_refl _)); have hO' := hid hO'; clear hg' hat' hOx hBx hr)
             go_roundw
             case rel => exact ⟨m1, by first | rfl | go_num, hms, hnx, by rw [hst.out, ← List.append_assoc]; exact hO'.out, hb'.out⟩
             case measure => simp [intOf]; omega
            ·have hty2 := hid fun (y' : Nat) (h1 : k ≤ y') (h2 : y' < k + t1) => (show (a, S) ∈ runL (p y') S K from by
              by_cases e : y' = kt
              ·rw [e]; exact of_decide_eq_true hq
              ·exact hty.out y' h1 (by omega))
             clear hq
             go_wp2_with fail
             refine HRt.out.mono ?_
             rintro e w5 ⟨rfl, hv⟩
             clear HRt
             replace d2 := keep_cell hv d2
             replace hr5 := rng_below hr5 hv
             replace hz5 := hz5.below hv
             replace hOw := hOw.below hv
             replace hbz := bel_step hbz hv
             have hfg := hz5.fr
             have hfin := hid (And.intro (rng_thick (x := .int .i64 (t1 : Int)) hr5) (And.intro (hz5.set_ (k := g) (i := 2) (v := .int .i64 (t1 : Int))) (And.intro (hOw.setOff (i := 2) (u := .int .i64 (t1 : Int)) hne.out) (below_set hbz hzg 2 (.int .i64 (t1 : Int))))))
             have hmz := hid (thkM_eq (at_set (u := .int .i64 (t1 : Int)) d2))
             clear hv c0 c1 c2 HBt hr5 hz5 hOw hbz hty
             go_wp2
             go_roundw
             case rel => exact ⟨t1, by omega, by omega, hty2, hfin.out.1, hfin.out.2.1, hfin.out.2.2.1, hfin.out.2.2.2⟩
             case measure =>
              rw [hmz.out, htk]; omega
           ·have hkti : ¬ (kt : Int) < (N : Int) := by omega
            have hex := hid fun (h : k + t < N) => (show (a, S) ∉ runL (p (k + t)) S K from by omega)
            clear d2 hfg htk c0 c1 c2 HBt hw5 ht1e
            have hst := hid (show RX k m1 = RX k a ++ [mkR v k t (a, S)] from by rw [← hm1.out]; exact hpu.out k a S t haS hX3.out hE.out hkk hk0.out hkn ht2 hty.out hex.out)
            have hlk := hlen.out k a hkn (by omega)
            have p0 : wt.cell? ⟨g, 0, none⟩ = some (.bool v) := hr5 0 _ rfl
            have p1 : wt.cell? ⟨g, 1, none⟩ = some (.int .i64 (k : Int)) := hr5 1 _ rfl
            have p2 : wt.cell? ⟨g, 2, none⟩ = some (.int .i64 (t : Int)) := hr5 2 _ rfl
            have p3 : wt.cell? ⟨g, 3, none⟩ = some (.int .i64 (a : Int)) := hr5 3 _ rfl
            have p4 : wt.cell? ⟨g, 4, none⟩ = some (.int .i64 (S : Int)) := hr5 4 _ rfl
            have hOx := hOw.below ((Below.refl _ _).alloc (Nat.le_refl _) (.cells #[.bool v, .int .i64 (k : Int), .int .i64 (t : Int), .int .i64 (a : Int), .int .i64 (S : Int)] 53))
            have hBx := hbz.alloc hbz.size (.cells #[.bool v, .int .i64 (k : Int), .int .i64 (t : Int), .int .i64 (a : Int), .int .i64 (S : Int)] 53)
            have hr := rng_alloc (w := wt) (cs := [.bool v, .int .i64 (k : Int), .int .i64 (t : Int), .int .i64 (a : Int), .int .i64 (S : Int)]) (t := 53)
            have hzz := hbz.size
            clear HR hsk hpu hown hty hex hr5 hz5 hOw hbz
            go_wp2_with (at_builtin; go_loud (refine Knd.app1 RuKo rfl (.tmp 89) (.tmp 91) rfl wc.heap.size u7 (LK k ++ RX k a) (mkR v k t (a, S)) wt.heap.size rfl hOx rfl hr hlk (by simp; omega) ?_); intro v' w' hO' hg' hat'; have hb' := hid (Knd.grown hBx hOx hg' (by simp; omega) (Nat.le_refl _)); have hO' := hid hO'; clear hg' hat' hOx hBx hr)
            go_roundw
            case rel => exact ⟨m1, by first | rfl | go_num, hms, hnx, by rw [hst.out, ← List.append_assoc]; exact hO'.out, hb'.out⟩
            case measure => simp [intOf]; omega
         ·have hk0i : ((k : Int) == 0) = false := by rw [beq_eq_false_iff_ne]; omega
          have hwk : IntKind.i64.wrap ((k : Int) - 1) = ((k - 1 : Nat) : Int) := by rw [IntKind.wrap_i64]; omega
          obtain ⟨⟨⟨c0, c1⟩, c2⟩, HBt⟩ := hKp.out w2 hbz
          have HRt := hid (HR.out (k - 1) a S (by omega) hkk (by omega) w2 HBt)
          obtain ⟨q, hq⟩ : ∃ q, decide ((a, S) ∈ runL (p (k - 1)) S K) = q := ⟨_, rfl⟩
          rw [hq] at HRt
          obtain ⟨kk, hkk1⟩ : ∃ x, k - 1 = x := ⟨_, rfl⟩
          rw [hkk1] at HRt hwk
          go_wp2_with fail
          refine HRt.out.mono ?_
          rintro e w6 ⟨rfl, hv⟩
          replace hOw := hOw.below hv
          replace hbz := bel_step hbz hv
          clear hv HRt HBt c0 c1 c2
          cases q
          ·have hk0 := hid (show k = 0 ∨ (a, S) ∉ runL (p (k - 1)) S K from .inr (of_decide_eq_false hq))
           clear hq
           obtain ⟨m1, hm1⟩ : ∃ m, max S (a + 1) = m := ⟨_, rfl⟩
           have hmi : max (S : Int) ((a : Int) + 1) = (m1 : Int) := by omega
           have hms : m1 ≤ S := by omega
           have hma : a < m1 := by omega
           rw [hm1] at hnx
           replace hm1 := hid hm1
           go_upto_region 15 with fail
           refine enterR (P := fun u => Code.wp _ _ _ _ u) (c := [.bool v, .int .i64 (k : Int), .int .i64 1, .int .i64 (a : Int), .int .i64 (S : Int)]) ?_
           intro z hbz2 r5 z5 hsz5
           obtain ⟨g, hg⟩ : ∃ g, w6.heap.size = g := ⟨_, rfl⟩
           have hne := hid fun (kk : Nat) (e : u7.ownBlock = some kk) => (show kk ≠ g from by have := (hOw.lt e).2; omega)
           have hOz := hOw.below hbz2
           have hbz0 := bel_step hbz hbz2
           have hzg := hbz.size
           have hty0 := hid fun (y' : Nat) (h1 : k ≤ y') (h2 : y' < k + 1) => (show (a, S) ∈ runL (p y') S K from by
            obtain rfl : y' = k := by omega
            exact hown.out y' a S haS hX3.out hE.out hkk)
           rw [hg] at r5 z5 hzg ⊢
           clear hOw hbz hbz2 hsz5 hg
           go_loopw [] (fun wt => ∃ t : Nat, 1 ≤ t ∧ k + t ≤ N ∧ Hid (∀ y', k ≤ y' → y' < k + t → (a, S) ∈ runL (p y') S K) ∧ wt.rangeAt g 0 [.bool v, .int .i64 (k : Int), .int .i64 (t : Int), .int .i64 (a : Int), .int .i64 (S : Int)] ∧ Zn wt g ∧ RuK.Own wt wc.heap.size u7 (LK k ++ RX k a) ∧ Below wc.heap.size wc wt) (fun wt => N - thkM wt g)
           case atStart => exact ⟨1, Nat.le_refl _, by omega, hty0, r5, z5, hOz, hbz0⟩
           case round =>
            clear hOz hbz0 hty0 r5 z5
            obtain ⟨t, ht1, ht2, hty, hr5, hz5, hOw, hbz⟩ := hrel
            obtain ⟨wt, hwt⟩ : ∃ x, x = wr := ⟨_, rfl⟩
            subst hwt
            have d2 : wt.cell? ⟨g, 2, none⟩ = some (.int .i64 (t : Int)) := hr5 2 _ rfl
            have hfg := hz5.fr
            have htk := thkM_eq d2
            obtain ⟨⟨⟨c0, c1⟩, c2⟩, HBt⟩ := hKp.out wt hbz
            have hw4 : IntKind.i64.wrap ((k : Int) + (t : Int)) = ((k + t : Nat) : Int) := by rw [IntKind.wrap_i64]; omega
            have hw5 : IntKind.i64.wrap ((t : Int) + 1) = ((t + 1 : Nat) : Int) := by rw [IntKind.wrap_i64]; omega
            obtain ⟨kt, hkt⟩ : ∃ x, k + t = x := ⟨_, rfl⟩
            obtain ⟨t1, ht1e⟩ : ∃ x, t + 1 = x := ⟨_, rfl⟩
            rw [hkt] at hw4
            rw [ht1e] at hw5
            by_cases hkt2 : kt < N
            ·have hkti : (kt : Int) < (N : Int) := by omega
             obtain ⟨q, hq⟩ : ∃ q, decide ((a, S) ∈ runL (p kt) S K) = q := ⟨_, rfl⟩
             have HRt := hid (HR.out kt a S hkt2 hkk (by omega) wt HBt)
             rw [hq] at HRt
             cases q
             ·have hex := hid fun (h : k + t < N) => (show (a, S) ∉ runL (p (k + t)) S K from by rw [hkt]; exact of_decide_eq_false hq)
              clear hq
              go_wp2_with fail
              refine HRt.out.mono ?_
              rintro e w5 ⟨rfl, hv⟩
              clear HRt
              replace hr5 := rng_below hr5 hv
              replace hz5 := hz5.below hv
              replace hOw := hOw.below hv
              replace hbz := bel_step hbz hv
              obtain ⟨wt, hwt⟩ : ∃ x, x = w5 := ⟨_, rfl⟩
              subst hwt
              clear hv d2 hfg htk c0 c1 c2 HBt hw5 ht1e
              have hst := hid (show RX k m1 = RX k a ++ [mkR v k t (a, S)] from by rw [← hm1.out]; exact hpu.out k a S t haS hX3.out hE.out hkk hk0.out hkn ht2 hty.out hex.out)
              have hlk := hlen.out k a hkn (by omega)
              have p0 : wt.cell? ⟨g, 0, none⟩ = some (.bool v) := hr5 0 _ rfl
              have p1 : wt.cell? ⟨g, 1, none⟩ = some (.int .i64 (k : Int)) := hr5 1 _ rfl
              have p2 : wt.cell? ⟨g, 2, none⟩ = some (.int .i64 (t : Int)) := hr5 2 _ rfl
              have p3 : wt.cell? ⟨g, 3, none⟩ = some (.int .i64 (a : Int)) := hr5 3 _ rfl
              have p4 : wt.cell? ⟨g, 4, none⟩ = some (.int .i64 (S : Int)) := hr5 4 _ rfl
              have hOx := hOw.below ((Below.refl _ _).alloc (Nat.le_refl _) (.cells #[.bool v, .int .i64 (k : Int), .int .i64 (t : Int), .int .i64 (a : Int), .int .i64 (S : Int)] 53))
              have hBx := hbz.alloc hbz.size (.cells #[.bool v, .int .i64 (k : Int), .int .i64 (t : Int), .int .i64 (a : Int), .int .i64 (S : Int)] 53)
              have hr := rng_alloc (w := wt) (cs := [.bool v, .int .i64 (k : Int), .int .i64 (t : Int), .int .i64 (a : Int), .int .i64 (S : Int)]) (t := 53)
              have hzz := hbz.size
              clear HR hsk hpu hown hty hex hr5 hz5 hOw hbz
              go_wp2_with (at_builtin; go_loud (refine Knd.app1 RuKo rfl (.tmp 89) (.tmp 91) rfl wc.heap.size u7 (LK k ++ RX k a) (mkR v k t (a, S)) wt.heap.size rfl hOx rfl hr hlk (by simp; omega) ?_); intro v' w' hO' hg' hat'; have hb' := hid (Knd.grown hBx hOx hg' (by simp; omega) (Nat.le_refl _)); have hO' := hid hO'; clear hg' hat' hOx hBx hr)
              go_roundw
              case rel => exact ⟨m1, by first | rfl | go_num, hms, hnx, by rw [hst.out, ← List.append_assoc]; exact hO'.out, hb'.out⟩
              case measure => simp [intOf]; omega
             ·have hty2 := hid fun (y' : Nat) (h1 : k ≤ y') (h2 : y' < k + t1) => (show (a, S) ∈ runL (p y') S K from by
               by_cases e : y' = kt
               ·rw [e]; exact of_decide_eq_true hq
               ·exact hty.out y' h1 (by omega))
              clear hq
              go_wp2_with fail
              refine HRt.out.mono ?_
              rintro e w5 ⟨rfl, hv⟩
              clear HRt
              replace d2 := keep_cell hv d2
              replace hr5 := rng_below hr5 hv
              replace hz5 := hz5.below hv
              replace hOw := hOw.below hv
              replace hbz := bel_step hbz hv
              have hfg := hz5.fr
              have hfin := hid (And.intro (rng_thick (x := .int .i64 (t1 : Int)) hr5) (And.intro (hz5.set_ (k := g) (i := 2) (v := .int .i64 (t1 : Int))) (And.intro (hOw.setOff (i := 2) (u := .int .i64 (t1 : Int)) hne.out) (below_set hbz hzg 2 (.int .i64 (t1 : Int))))))
              have hmz := hid (thkM_eq (at_set (u := .int .i64 (t1 : Int)) d2))
              clear hv c0 c1 c2 HBt hr5 hz5 hOw hbz hty
              go_wp2
              go_roundw
              case rel => exact ⟨t1, by omega, by omega, hty2, hfin.out.1, hfin.out.2.1, hfin.out.2.2.1, hfin.out.2.2.2⟩
              case measure =>
               rw [hmz.out, htk]; omega
            ·have hkti : ¬ (kt : Int) < (N : Int) := by omega
             have hex := hid fun (h : k + t < N) => (show (a, S) ∉ runL (p (k + t)) S K from by omega)
             clear d2 hfg htk c0 c1 c2 HBt hw5 ht1e
             have hst := hid (show RX k m1 = RX k a ++ [mkR v k t (a, S)] from by rw [← hm1.out]; exact hpu.out k a S t haS hX3.out hE.out hkk hk0.out hkn ht2 hty.out hex.out)
             have hlk := hlen.out k a hkn (by omega)
             have p0 : wt.cell? ⟨g, 0, none⟩ = some (.bool v) := hr5 0 _ rfl
             have p1 : wt.cell? ⟨g, 1, none⟩ = some (.int .i64 (k : Int)) := hr5 1 _ rfl
             have p2 : wt.cell? ⟨g, 2, none⟩ = some (.int .i64 (t : Int)) := hr5 2 _ rfl
             have p3 : wt.cell? ⟨g, 3, none⟩ = some (.int .i64 (a : Int)) := hr5 3 _ rfl
             have p4 : wt.cell? ⟨g, 4, none⟩ = some (.int .i64 (S : Int)) := hr5 4 _ rfl
             have hOx := hOw.below ((Below.refl _ _).alloc (Nat.le_refl _) (.cells #[.bool v, .int .i64 (k : Int), .int .i64 (t : Int), .int .i64 (a : Int), .int .i64 (S : Int)] 53))
             have hBx := hbz.alloc hbz.size (.cells #[.bool v, .int .i64 (k : Int), .int .i64 (t : Int), .int .i64 (a : Int), .int .i64 (S : Int)] 53)
             have hr := rng_alloc (w := wt) (cs := [.bool v, .int .i64 (k : Int), .int .i64 (t : Int), .int .i64 (a : Int), .int .i64 (S : Int)]) (t := 53)
             have hzz := hbz.size
             clear HR hsk hpu hown hty hex hr5 hz5 hOw hbz
             go_wp2_with (at_builtin; go_loud (refine Knd.app1 RuKo rfl (.tmp 89) (.tmp 91) rfl wc.heap.size u7 (LK k ++ RX k a) (mkR v k t (a, S)) wt.heap.size rfl hOx rfl hr hlk (by simp; omega) ?_); intro v' w' hO' hg' hat'; have hb' := hid (Knd.grown hBx hOx hg' (by simp; omega) (Nat.le_refl _)); have hO' := hid hO'; clear hg' hat' hOx hBx hr)
             go_roundw
             case rel => exact ⟨m1, by first | rfl | go_num, hms, hnx, by rw [hst.out, ← List.append_assoc]; exact hO'.out, hb'.out⟩
             case measure => simp [intOf]; omega
          ·have hst := hid (hsk.out k a S haS hX3.out hE.out (fun h => by
            rcases h.2 with h2 | h2
            ·exact hk00 h2
            ·exact h2 (of_decide_eq_true hq)))
           clear hq
           obtain ⟨m1, hm1⟩ : ∃ m, max S (a + 1) = m := ⟨_, rfl⟩
           have hmi : max (S : Int) ((a : Int) + 1) = (m1 : Int) := by omega
           have hms : m1 ≤ S := by omega
           have hma : a < m1 := by omega
           rw [hm1] at hst hnx
           clear hm1 HR hsk hpu hown
           go_wp2
           go_roundw
           case rel => exact ⟨m1, by first | rfl | go_num, hms, hnx, by rw [hst.out]; exact hOw, hbz⟩
           case measure => simp [intOf]; omega
        ·have hki2 : ¬ (K : Int) ≤ ((S - a : Nat) : Int) := by omega
         have hst := hid (hsk.out k a S haS hX3.out hE.out (fun h => hkk h.1))
         obtain ⟨m1, hm1⟩ : ∃ m, max S (a + 1) = m := ⟨_, rfl⟩
         have hmi : max (S : Int) ((a : Int) + 1) = (m1 : Int) := by omega
         have hms : m1 ≤ S := by omega
         have hma : a < m1 := by omega
         rw [hm1] at hst hnx
         clear hm1 HR hsk hpu hown
         go_wp2
         go_roundw
         case rel => exact ⟨m1, by first | rfl | go_num, hms, hnx, by rw [hst.out]; exact hOw, hbz⟩
         case measure => simp [intOf]; omega
     ·obtain rfl : a = S := by omega
      have hai : ¬ (a : Int) < (a : Int) := by omega
      have hst := hid (hall.out k)
      clear HR HA hsk hpu hown hlen
      go_wp2
      go_roundw
      case rel => exact ⟨k + 1, by go_num, by omega, by rw [← hst.out]; exact hOw, hbz⟩
      case measure => simp [intOf]; omega
   ·obtain rfl : k = N := by omega
    have hki : ¬ (k : Int) < (k : Int) := by omega
    obtain ⟨-, HBt⟩ := hKp.out wr hbk
    have hOo := hO.older (show w.heap.size ≤ wc.heap.size by omega)
    clear HR HA hsk hpu hown hlen hall
    go_wp2
    go_ret
    exact ⟨_, rfl, hOo, HBt⟩
end Go.Proofs.YtjfgklhifhaaoaaGreat
