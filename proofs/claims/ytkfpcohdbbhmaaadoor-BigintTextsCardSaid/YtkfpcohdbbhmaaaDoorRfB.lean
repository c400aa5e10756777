/- The reference: walks of times, half. Conditions: none. -/
import Derived.Test.YtkfpcohdbbhmaaaDoorRfA
namespace Go.Proofs.YtkfpcohdbbhmaaaDoor
set_option linter.unusedVariables false
set_option linter.unusedSimpArgs false
open Go.RowKit Big

theorem Rtrim_fin {L : List Nat} {w wr : World} {n : Nat} {R : Ending → World → Prop} (hL : LB wr w.heap.size L) (ho : Ok L) (hl : L.length = n) (hn : n ≤ 1073741824) (v : Nat) (hv : val L = v) (hbl : Below w.heap.size w wr) (hR : ∀ e w', RetN w v e w' → R e w') :
    Calls Tryd.prog 90 #[.slice (some ⟨w.heap.size, 0, none⟩) n n] wr R := by
  subst hl; subst hv
  have hm := hL.mg ho (by omega)
  refine (RTrim_any _ _ _ _ hm hn).mono fun e' w' h => hR _ _ ?_
  obtain ⟨A', c', h1, h2, h3⟩ := h
  exact ⟨A', c', h1, h2, hbl.trans (h3.mono hbl.size)⟩

set_option maxHeartbeats 2000000 in
theorem Rtimes_any (A B : Option Addr) (c d : Nat) (xs ys : List Nat) (w : World) (ha : Mg w A c xs) (hb : Mg w B d ys) (hs : xs.length ≤ 1048576) (ht : ys.length ≤ 1048576) :
    Calls Tryd.prog 76 #[.slice A xs.length c, .slice B ys.length d] w (RetN w (val xs * val ys)) := by
  have hmk := make32 (xs.length + ys.length) (by omega)
  rw [show ((xs.length + ys.length : Nat) : Int) = (xs.length : Int) + (ys.length : Int) from by omega] at hmk
  go_enter Tryd.func76, Tryd.ntmps76
  go_wp2
  go_loopw [6] (fun i wr => ∃ (k : Nat) (L : List Nat), k ≤ xs.length ∧ i = .int .i64 k ∧ Below w.heap.size w wr ∧ LB wr w.heap.size L ∧ MulAt xs ys k L) (fun i _ => xs.length - (intOf i).toNat)
  case atStart => exact ⟨0, _, Nat.zero_le _, rfl, (Below.refl _ _).alloc (Nat.le_refl _) _, LB.made w (xs.length + ys.length), .start _ _⟩
  case round =>
    obtain ⟨k, L0, hk, rfl, hbl0, hL0, hat0⟩ := hrel
    obtain ⟨wo, rfl⟩ : ∃ wo : World, wo = wr := ⟨_, rfl⟩
    by_cases hkl : k < xs.length
    · go_wp2
      go_loopw [7, 8] (fun cr i wr => ∃ (j q : Nat) (L : List Nat), j ≤ ys.length ∧ i = .int .i64 j ∧ cr = .int .u64 q ∧ q < 4294967296 ∧ Below w.heap.size w wr ∧ LB wr w.heap.size L ∧ MulIn xs ys k j q L) (fun _ i _ => ys.length - (intOf i).toNat)
      case atStart => exact ⟨0, 0, L0, Nat.zero_le _, rfl, rfl, by omega, hbl0, hL0, hat0.inner⟩
      case round =>
        obtain ⟨j, q, L, hj, rfl, rfl, hq, hbl, hL, hat⟩ := hrel
        clear hbl0 hL0 hat0
        have hgl := hL.lt
        have hwz := hbl.size
        by_cases hjl : j < ys.length
        · have hkL : k + j < L.length := by rw [hat.len hk hj]; omega
          have cell0 := hL.cell (k + j) hkL
          have free0 := hL.free (k + j)
          obtain ⟨ba, oa, rfl, hba, hca⟩ := ha.rd.at_ hkl
          have c1 := (hbl.cell (p := ⟨ba, oa + k, none⟩) hba).trans (hca k hkl)
          have o1 := ha.ok.get hkl
          have hba2 : ba < wr.heap.size := by omega
          obtain ⟨bb, ob, rfl, hbb, hcb⟩ := hb.rd.at_ hjl
          have c2 := (hbl.cell (p := ⟨bb, ob + j, none⟩) hbb).trans (hcb j hjl)
          have o2 := hb.ok.get hjl
          have o3 := hat.got hjl hkL
          have hbb2 : bb < wr.heap.size := by omega
          unfold lim at c1 c2
          clear hca hcb
          obtain ⟨p0, p1⟩ := prod_bd xs[k] ys[j] o1 o2
          have hmb := mul_bound o1 o2 o3 hq
          have HS := hid (hat.step hkl hjl hkL)
          have hP : (xs[k] : Int) * (ys[j] : Int) = ((xs[k] * ys[j] : Nat) : Int) := (Int.natCast_mul _ _).symm
          generalize xs[k] * ys[j] = P at *
          obtain ⟨m, hm⟩ : ∃ m, (P + L[k + j] + q) % 4294967296 = m := ⟨_, rfl⟩
          obtain ⟨u, hu⟩ : ∃ u, (P + L[k + j] + q) / 4294967296 = u := ⟨_, rfl⟩
          have hm1 : ((P : Int) + (L[k + j] : Int) + (q : Int)) % 4294967296 = (m : Int) := by omega
          have hu1 : ((P : Int) + (L[k + j] : Int) + (q : Int)) / 4294967296 = (u : Int) := by omega
          have hm2 : m < 4294967296 := by omega
          have hu2 : u < 4294967296 := by omega
          rw [hm, hu] at HS
          clear hm hu hat
          go_wp2
          go_region
          go_wp2
          go_roundw
          case rel => exact ⟨j + 1, u, L.set (k + j) m, by omega, by go_num, by rw [hu1], hu2, (by repeat (first | exact hbl | refine Below.drew ?_ | refine below_drewN ?_ _ | refine Below.setCell ?_ (by exact Nat.le_refl _) _ | refine Below.alloc ?_ (by simp; omega) _)), (by repeat (first | exact hL | refine LB.drew ?_ | refine LB.drewN ?_ _ | refine LB.set_ ?_ _ _ _ rfl)), HS.out⟩
          case measure => simp [intOf]; omega
        · obtain rfl : j = ys.length := by omega
          have hkL : k + ys.length < L.length := by rw [hat.len hk hj]; omega
          have cell0 := hL.cell (k + ys.length) hkL
          have free0 := hL.free (k + ys.length)
          go_wp2
          go_roundw
          case rel => exact ⟨k + 1, L.set (k + ys.length) q, by omega, by go_num, (by repeat (first | exact hbl | refine Below.drew ?_ | refine below_drewN ?_ _ | refine Below.setCell ?_ (by exact Nat.le_refl _) _ | refine Below.alloc ?_ (by simp; omega) _)), hL.set_ _ _ _ rfl, hat.done ha.ok hb.ok hq hkl⟩
          case measure => simp [intOf]; omega
    · obtain rfl : k = xs.length := by omega
      go_wp2_with (go_at_call 90; refine Rtrim_fin hL0 (by rw [hat0.last]; exact ok_mulL _ _ _ ha.ok hb.ok (Ok.rep _)) (hat0.len (Nat.le_refl _)) (by omega) (val xs * val ys) (by rw [hat0.last, val_mulL _ _ _ (by simp), val_rep, Nat.add_zero]) hbl0 ?_; rintro e w1 ⟨R, cc, rfl, hr1, hr2⟩)
      go_ret
      exact ⟨R, cc, rfl, hr1, hr2⟩

end Go.Proofs.YtkfpcohdbbhmaaaDoor

/- The reference: the walk of half. Conditions: none. -/
namespace Go.Proofs.YtkfpcohdbbhmaaaDoor
set_option linter.unusedVariables false
set_option linter.unusedSimpArgs false
open Go.RowKit Big

theorem below_app1d {w wr w5 : World} {v : Value} {D : List Nat} {m : Nat} (hown : wr.ownsRow w.heap.size 57 1 v D.length (D.map lim)) (hbl : Below w.heap.size w wr)
    (hgr : ((wr.alloc (.cells #[.int .u32 (m : Int)] 57)).drew).grownBy w5 v.ownBlock) : Below w.heap.size w w5 :=
  (hbl.alloc hbl.size _).drew.trans (below_app (own_below hown ((Below.refl _ _).alloc (Nat.le_refl _) (.cells #[.int .u32 (m : Int)] 57)).drew) hgr (by have := hbl.size; simp; omega))

set_option maxRecDepth 100000 in
set_option maxHeartbeats 1000000 in
theorem Rhalf_fr (A : Option Addr) (c : Nat) (xs : List Nat) (w : World) (ha : Mg w A c xs) (hs : xs.length ≤ 1048576) :
    Calls Tryd.prog 60 #[.slice A xs.length c] w (RetNF w (val xs / 2)) := by
  have HX := hid fun (w1 : World) (h : Below w.heap.size w w1) (i : Nat) (hi : i ≤ 1099511627776) => Rlimb_any A c xs w1 (ha.below h) i hi
  change Hid (∀ (w1 : World), Below w.heap.size w w1 → ∀ (i : Nat), i ≤ 1099511627776 → Calls _ _ _ w1 fun e w' => e = .returned (.int .u64 ((lb xs i : Nat) : Int)) ∧ w1 = w') at HX
  go_enter Tryd.func60, Tryd.ntmps60
  go_wp2
  go_loopw [3, 4] (fun s3 s4 wr => ∃ (k : Nat) (v : Value) (D : List Nat), k ≤ xs.length ∧ s4 = .int .i64 k ∧ s3 = v ∧ wr.ownsRow w.heap.size 57 1 v D.length (D.map lim) ∧ Below w.heap.size w wr ∧ Hid (Hlf xs k D)) (fun _ s4 _ => xs.length - (intOf s4).toNat)
  case atStart => exact ⟨0, _, [], by omega, rfl, rfl, World.ownsRow_nil _ _ _ _, Below.refl _ _, Hlf.start _⟩
  case round =>
    obtain ⟨k, v, D, hk, rfl, rfl, hown, hbl, hc⟩ := hrel
    have hD := hc.out.len
    have hsz := hbl.size
    by_cases h0 : k < xs.length
    · obtain ⟨b, o, rfl, hB, hcc⟩ := ha.rd.at_ h0
      have c1 := (hbl.cell (p := ⟨b, o + k, none⟩) hB).trans (hcc k h0)
      have hx := ha.ok.get h0
      have HX1 := hid (fun w1 h => HX.out w1 h (k + 1) (by omega))
      have e1 : ((k + 1 : Nat) : Int) = (k : Int) + 1 := by omega
      rw [e1] at HX1
      have HC := hid (hc.out.step (lb_lt ha.ok k))
      rw [lb_at h0] at HC
      have hy := lb_lt ha.ok (k + 1)
      unfold lim at c1
      clear HX hc hcc
      generalize lb xs (k + 1) = y at *
      generalize xs[k] = x at *
      obtain ⟨m, hm⟩ : ∃ m, x / 2 + y % 2 * 2147483648 = m := ⟨_, rfl⟩
      have hm1 : (x : Int) / 2 + (y : Int) % 2 * 2147483648 = (m : Int) := by omega
      have hm2 : m < 4294967296 := by omega
      rw [hm] at HC
      clear hm
      have hw1 : IntKind.i64.wrap ((k : Int) + 1) = (k : Int) + 1 := by simp only [IntKind.wrap_i64]; omega
      obtain ⟨h, hh⟩ : ∃ h : Nat, (x : Int) / 2 = (h : Int) := ⟨x / 2, by omega⟩
      obtain ⟨r, hr⟩ : ∃ r : Nat, (y : Int) % 2 = (r : Int) := ⟨y % 2, by omega⟩
      rw [hh, hr] at hm1
      have hw2 : Int.tmod (y : Int) 2 = (r : Int) := by rw [Int.tmod_eq_emod_of_nonneg (by omega)]; exact hr
      have hw3 : IntKind.u32.wrap (r : Int) = (r : Int) := by simp only [IntKind.wrap_u32]; omega
      have hw4 : IntKind.u32.wrap (h : Int) = (h : Int) := by simp only [IntKind.wrap_u32]; omega
      have hw5 : IntKind.u32.wrap ((r : Int) * 2147483648) = (r : Int) * 2147483648 := by simp only [IntKind.wrap_u32]; omega
      have hw6 : IntKind.u32.wrap (m : Int) = (m : Int) := by simp only [IntKind.wrap_u32]; omega
      go_wp2
      go_region_law (first | (go_simp; go_at_call 79; (with_reducible refine (HX1.out _ (by repeat' (first | with_reducible assumption | exact Below.refl _ _ | (refine Below.alloc ?_ (by first | omega | (simp only [World.size_alloc, World.size_setCell, World.size_drew]; done) | (simp only [World.size_alloc, World.size_setCell, World.size_drew]; omega)) _) | (refine Below.drew ?_) | (refine below_drewN ?_ _) | (refine Below.setCell ?_ (by first | omega | (simp only [World.size_alloc, World.size_setCell, World.size_drew]; done) | (simp only [World.size_alloc, World.size_setCell, World.size_drew]; omega)) _)))).mono ?_); rintro e w1 ⟨rfl, rfl⟩) | (refine step_app rfl (.tmp 11) (.tmp 25) 22 rfl 57 (.int .u32 0) 4 Tryd.underlying22 info32 rfl w.heap.size lim (fun _ => rfl) _ D rfl (own_below hown (by repeat' (first | with_reducible assumption | exact Below.refl _ _ | (refine Below.alloc ?_ (by first | omega | (simp only [World.size_alloc, World.size_setCell, World.size_drew]; done) | (simp only [World.size_alloc, World.size_setCell, World.size_drew]; omega)) _) | (refine Below.drew ?_) | (refine below_drewN ?_ _) | (refine Below.setCell ?_ (by first | omega | (simp only [World.size_alloc, World.size_setCell, World.size_drew]; done) | (simp only [World.size_alloc, World.size_setCell, World.size_drew]; omega)) _)))) _ 1 [m] rfl (by exact rd_one lim wr m 57) (by simp; omega) (by simp; omega) (by simp; omega) ?_; intro v5 w5 hown5 hgr hwh))
      all_goals
        go_wp2
        go_roundw
        case rel => exact ⟨k + 1, v5, D ++ [m], by omega, by go_num, rfl, hown5, below_app1d hown hbl hgr, HC⟩
        case measure => simp [intOf]; omega
    · obtain rfl : k = xs.length := by omega
      have hv := hid (hc.out.last (Nat.le_refl _))
      have hok := hid hc.out.ok
      clear HX hc
      go_wp2_with (go_at_call 90; refine (own_trim hown hbl hok.out (by omega) hv.out).mono ?_; rintro e w6 ⟨R, cc, rfl, hr1, hr2⟩)
      go_ret
      exact ⟨R, cc, rfl, hr1, hr2⟩
end Go.Proofs.YtkfpcohdbbhmaaaDoor

/- The reference: walks of bit, divide. Conditions: none. -/
namespace Go.Proofs.YtkfpcohdbbhmaaaDoor
set_option linter.unusedVariables false
set_option linter.unusedSimpArgs false
open Go.RowKit Big

theorem u32_bit (x t : Nat) (hx : x < 4294967296) : bits .and .u32 ((x : Int) / 2 ^ t) 1 = ((x / 2 ^ t % 2 : Nat) : Int) := by
  have e : (x : Int) / 2 ^ t = ((x / 2 ^ t : Nat) : Int) := by rw [Int.natCast_ediv]; simp
  have h := Nat.div_le_self x (2 ^ t)
  rw [e, show (1 : Int) = ((1 : Nat) : Int) from rfl, u32_and_nat _ _ (by omega) (by omega), Nat.and_one_is_mod]

set_option maxHeartbeats 1000000 in
theorem Rbit_any (A : Option Addr) (c : Nat) (xs : List Nat) (w : World) (ha : Mg w A c xs) (hs : xs.length ≤ 1048576) (i : Nat) (hi : i / 32 < xs.length) :
    Calls Tryd.prog 89 #[.slice A xs.length c, .int .i64 i] w fun e w' => e = .returned (.int .u32 ((val xs / 2 ^ i % 2 : Nat) : Int)) ∧ w = w' := by
  obtain ⟨b, o, rfl, hB, hcc⟩ := ha.rd.at_ hi
  have c1 := hcc (i / 32) hi
  have hx := ha.ok.get hi
  have HV := hid (bit_val ha.ok i hi)
  unfold lim at c1
  have hq : (i : Int) / 32 = ((i / 32 : Nat) : Int) := by omega
  have hr : (i : Int) % 32 = ((i % 32 : Nat) : Int) := by omega
  have hr2 : i % 32 < 32 := by omega
  have hi2 : i < 9223372036854775808 := by omega
  clear ha hcc
  generalize xs[i / 32] = x at *
  generalize i / 32 = j at *
  generalize i % 32 = t at *
  rw [← HV.out]
  clear HV
  have HB := hid (u32_bit x t hx)
  go_enter Tryd.func89, Tryd.ntmps89
  go_wp2
  go_ret
  exact ⟨by rw [← HB.out]; rfl, rfl⟩

theorem limbs_len2 {n m p : Nat} (hm : m < 4294967296) (hp : p < 4294967296) : (limbs (n * m + p)).length ≤ (limbs n).length + 1 := by
  rw [limbs_len_iff]
  have h := (limbs_len_iff n _).1 (Nat.le_refl _)
  rw [Nat.pow_succ]
  generalize 4294967296 ^ (limbs n).length = Q at *
  have h1 : (n + 1) * 4294967296 ≤ Q * 4294967296 := Nat.mul_le_mul_right _ h
  have h2 : n * m ≤ n * 4294967295 := Nat.mul_le_mul_left _ (by omega)
  omega
theorem Mg.set_far {w : World} {A : Option Addr} {c : Nat} {xs : List Nat} (h : Mg w A c xs) {g : Nat} (hne : ∀ p, A = some p → p.block ≠ g) (i : Nat) (u : Value) : Mg (w.setCell ⟨g, i, none⟩ u) A c xs :=
  ⟨h.cap, h.max, h.ok, fun hl => by
    obtain ⟨b, o, e, hB, hc⟩ := h.rd hl
    refine ⟨b, o, e, by simpa using hB, fun j hj => ?_⟩
    rw [cell_far (fun h1 => hne _ e h1.symm)]
    exact hc j hj⟩

set_option maxHeartbeats 2000000 in
theorem Rdivide_n (A B : Option Addr) (c d n m : Nat) (w : World) (ha : Mg w A c (limbs n)) (hb : Mg w B d (limbs m)) (hs : (limbs n).length ≤ 4096) (ht : (limbs m).length ≤ 4096) (hm : m ≠ 0) :
    Calls Tryd.prog 55 #[.slice A (limbs n).length c, .slice B (limbs m).length d] w (RetQR w (n / m) (n % m)) := by
  have HP := hid fun (w1 : World) (R : Option Addr) (cc r : Nat) (h : Mg w1 R cc (limbs r)) (hl : (limbs r).length ≤ 8192) => (show Calls Tryd.prog 57 #[.slice R (limbs r).length cc, .slice R (limbs r).length cc] w1 (RetNF w1 (r + r)) by
    have := Rplus_fr R R cc cc _ _ w1 h h (by omega) (by omega)
    rwa [val_limbs] at this)
  have HP1 := hid fun (w1 : World) (R Q : Option Addr) (cc r : Nat) (h : Mg w1 R cc (limbs r)) (h1 : Mg w1 Q 1 [1]) (hl : (limbs r).length ≤ 8192) => (show Calls Tryd.prog 57 #[.slice R (limbs r).length cc, .slice Q 1 1] w1 (RetNF w1 (r + 1)) by
    have := Rplus_fr R Q cc 1 _ _ w1 h h1 (by omega) (by simp)
    rwa [val_limbs] at this)
  have HO := hid fun (w1 : World) (hw : Below w.heap.size w w1) (R : Option Addr) (cc r : Nat) (h : Mg w1 R cc (limbs r)) (hl : (limbs r).length ≤ 8192) => (show Calls Tryd.prog 61 #[.slice R (limbs r).length cc, .slice B (limbs m).length d] w1 fun e w' => e = .returned (.int .i64 (ord r m)) ∧ w1 = w' by
    have := Rorder_any R B cc d _ _ w1 h (hb.below hw) (by omega) (by omega)
    rwa [val_limbs, val_limbs] at this)
  have HM := hid fun (w1 : World) (hw : Below w.heap.size w w1) (R : Option Addr) (cc r : Nat) (h : Mg w1 R cc (limbs r)) (hl : (limbs r).length ≤ 8192) (hle : m ≤ r) => (show Calls Tryd.prog 58 #[.slice R (limbs r).length cc, .slice B (limbs m).length d] w1 (RetNF w1 (r - m)) by
    have := Rminus_fr R B cc d _ _ w1 h (hb.below hw) (by omega) (limbs_mono hle) (by rw [val_limbs, val_limbs]; exact hle)
    rwa [val_limbs, val_limbs] at this)
  have HBt := hid fun (w1 : World) (hw : Below w.heap.size w w1) (i : Nat) (hi : i / 32 < (limbs n).length) => (show Calls Tryd.prog 89 #[.slice A (limbs n).length c, .int .i64 i] w1 fun e w' => e = .returned (.int .u32 ((n / 2 ^ i % 2 : Nat) : Int)) ∧ w1 = w' by
    have := Rbit_any A c _ w1 (ha.below hw) (by omega) i hi
    rwa [val_limbs] at this)
  have OX := hid ha.ok
  have VX := hid (val_limbs n)
  have hcapA := ha.cap
  have hmaxA := ha.max
  have hcapB := hb.cap
  have hmaxB := hb.max
  clear ha hb
  generalize limbs n = xs at *
  have hm0 : 0 < m := by omega
  have hmk := make32 xs.length (by omega)
  go_enter Tryd.func55, Tryd.ntmps55
  go_wp2
  go_loopw [7, 8] (fun s7 s8 wr => ∃ (j r : Nat) (L : List Nat) (R : Option Addr) (cc : Nat), j ≤ 32 * xs.length ∧ s8 = .int .i64 ((j : Int) - 1) ∧ s7 = .slice R (limbs r).length cc ∧ Mg wr R cc (limbs r) ∧ Below w.heap.size w wr ∧ LB wr w.heap.size L ∧ Hid (Lng xs m j r L)) (fun _ s8 _ => (intOf s8 + 1).toNat)
  case atStart => exact ⟨32 * xs.length, 0, _, none, 0, Nat.le_refl _, by first | rfl | (congr 1; omega), by simp [limbs_zero], mg_nil _, (Below.refl _ _).alloc (Nat.le_refl _) _, LB.made w xs.length, Lng.start OX.out m⟩
  case round =>
    obtain ⟨k, r, L, R, cc, hk, rfl, rfl, hr, hbl, hL, hg⟩ := hrel
    have hgl := hL.lt
    have hwz := hbl.size
    have hrm := hg.out.rlt hm0
    have hrl : (limbs r).length ≤ 4096 := Nat.le_trans (limbs_mono (Nat.le_of_lt hrm)) ht
    by_cases h0 : 0 < k
    · obtain ⟨j, rfl⟩ : ∃ j, k = j + 1 := ⟨k - 1, by omega⟩
      have e1 : ((j + 1 : Nat) : Int) - 1 = (j : Int) := by omega
      rw [e1]
      have hjl : j / 32 < xs.length := by omega
      have hkL : j / 32 < L.length := by rw [hg.out.len]; exact hjl
      have hfit := hg.out.fit hkL
      have HBj := hid (fun w1 hw => HBt.out w1 hw j hjl)
      have hNo := hid (fun (b : Nat) (hb : n / 2 ^ j % 2 = b) (hlt : 2 * r + b < m) => (show Lng xs m j (2 * r + b) L by subst hb; rw [← VX.out] at hlt ⊢; exact hg.out.no hlt))
      have hYes := hid (fun (b : Nat) (hb : n / 2 ^ j % 2 = b) (hlt : m ≤ 2 * r + b) => (show Lng xs m j (2 * r + b - m) (L.set (j / 32) (L[j / 32] + 2 ^ (j % 32))) by subst hb; rw [← VX.out] at hlt ⊢; exact hg.out.yes hrm hlt hkL))
      have hr2l : (limbs (r + r)).length ≤ 8192 := Nat.le_trans (by have := limbs_len2 (n := r) (m := 2) (p := 0) (by omega) (by omega); rwa [show r * 2 + 0 = r + r by omega] at this) (show (limbs r).length + 1 ≤ 8192 by omega)
      have hr3l : (limbs (r + r + 1)).length ≤ 8192 := Nat.le_trans (by have := limbs_len2 (n := r) (m := 2) (p := 1) (by omega) (by omega); rwa [show r * 2 + 1 = r + r + 1 by omega] at this) (show (limbs r).length + 1 ≤ 8192 by omega)
      have hqj : (j : Int) / 32 = ((j / 32 : Nat) : Int) := by omega
      have hrj : (j : Int) % 32 = ((j % 32 : Nat) : Int) := by omega
      clear HBt hg
      have htt : j % 32 < 32 := by omega
      have hfit2 : ((L[j / 32] : Nat) : Int) + 2 ^ (j % 32) < 4294967296 := (by have h2 : ((2 ^ (j % 32) : Nat) : Int) = 2 ^ (j % 32) := (by simp); rw [← h2]; omega)
      have HE := hid (show ((L[j / 32] : Nat) : Int) + 2 ^ (j % 32) = ((L[j / 32] + 2 ^ (j % 32) : Nat) : Int) by simp)
      have HE := hid (show (((L[j / 32] : Nat) : Int) + 2 ^ (j % 32)) % 4294967296 = ((L[j / 32] + 2 ^ (j % 32) : Nat) : Int) by rw [HE.out]; exact Int.emod_eq_of_lt (Int.natCast_nonneg _) (Int.ofNat_lt.2 hfit))
      generalize j / 32 = J at *
      generalize j % 32 = t at *
      rcases Nat.mod_two_eq_zero_or_one (n / 2 ^ j) with hb | hb
      · rw [hb] at HBj
        by_cases hlt : r + r < m
        · have HN := hid (hNo.out 0 hb (by omega))
          rw [show 2 * r + 0 = r + r by omega] at HN
          have HO1 := hid (fun w1 hw R cc => HO.out w1 hw R cc (r + r))
          clear HO HM hYes hNo hb
          go_wp2_with fail
          refine (HP.out _ _ _ _ hr (by omega)).mono ?_
          rintro e w1 ⟨R1, c1, rfl, hr1, h1, hf1⟩
          have hb1 := hbl.trans (h1.mono hwz)
          have hL1 := hL.below h1 hgl
          go_wp2_with fail
          refine (HBj.out _ hb1).mono ?_
          rintro e w2 ⟨rfl, rfl⟩
          rw [ord_lt hlt] at HO1
          go_wp2_with fail
          refine (HO1.out _ hb1 _ _ hr1 (by omega)).mono ?_
          rintro e w4 ⟨rfl, rfl⟩
          go_wp2_with fail
          go_roundw
          case rel => exact ⟨j, _, L, R1, c1, by omega, by first | rfl | go_num, rfl, hr1, hb1, hL1, HN.out⟩
          case measure => simp [intOf] <;> omega
        · have HN := hid (hYes.out 0 hb (by omega))
          rw [show 2 * r + 0 = r + r by omega] at HN
          have HO1 := hid (fun w1 hw R cc => HO.out w1 hw R cc (r + r))
          have hlt : m ≤ r + r := by omega
          clear HO hYes hNo hb
          go_wp2_with fail
          refine (HP.out _ _ _ _ hr (by omega)).mono ?_
          rintro e w1 ⟨R1, c1, rfl, hr1, h1, hf1⟩
          have hb1 := hbl.trans (h1.mono hwz)
          have hL1 := hL.below h1 hgl
          go_wp2_with fail
          refine (HBj.out _ hb1).mono ?_
          rintro e w2 ⟨rfl, rfl⟩
          have ho : 0 ≤ ord (r + r) m := by unfold ord; rw [if_neg (by omega)]; split <;> omega
          generalize ord (r + r) m = ov at *
          go_wp2_with fail
          refine (HO1.out _ hb1 _ _ hr1 (by omega)).mono ?_
          rintro e w4 ⟨rfl, rfl⟩
          go_wp2_with fail
          refine (HM.out _ hb1 _ _ _ hr1 (by omega) hlt).mono ?_
          rintro e w5 ⟨R5, c5, rfl, hr5, h5, hf5⟩
          have hb5 := (hb1).trans (h5.mono (hb1).size)
          have hL5 := (hL1).below h5 (hL1).lt
          have cell0 := hL5.cell J hkL
          have free0 := hL5.free J
          have hz5 := hb5.size
          have hgl5 := hL5.lt
          have hzz := (hL1).lt
          go_wp2_with fail
          go_roundw
          case rel => exact ⟨j, _, L.set J (L[J] + 2 ^ t), R5, c5, by omega, by first | rfl | go_num, rfl, hr5.set_far (fun p hp => by have := hf5.out p hp; omega) _ _, below_set hb5 (Nat.le_refl _) _ _, hL5.set_ _ _ _ HE.out, HN.out⟩
          case measure => simp [intOf] <;> omega
      · rw [hb] at HBj
        by_cases hlt : r + r + 1 < m
        · have HN := hid (hNo.out 1 hb (by omega))
          rw [show 2 * r + 1 = r + r + 1 by omega] at HN
          have HO1 := hid (fun w1 hw R cc => HO.out w1 hw R cc (r + r + 1))
          clear HO HM hYes hNo hb
          go_wp2_with fail
          refine (HP.out _ _ _ _ hr (by omega)).mono ?_
          rintro e w1 ⟨R1, c1, rfl, hr1, h1, hf1⟩
          have hb1 := hbl.trans (h1.mono hwz)
          have hL1 := hL.below h1 hgl
          go_wp2_with fail
          refine (HBj.out _ hb1).mono ?_
          rintro e w2 ⟨rfl, rfl⟩
          go_wp2_with fail
          refine (HP1.out _ _ _ _ _ hr1.alloc (mg_one _) (by omega)).mono ?_
          rintro e w3 ⟨R2, c2, rfl, hr2, h2, hf2⟩
          have hb2 : Below w.heap.size w w3 := (hb1.alloc hb1.size _).trans (h2.mono (by have := hb1.size; simp; omega))
          have hgl1 := hL1.lt
          have hL2 := (hL1.alloc (.cells #[.int .u32 1] 57)).below h2 (by simp; omega)
          rw [ord_lt hlt] at HO1
          go_wp2_with fail
          refine (HO1.out _ hb2 _ _ hr2 (by omega)).mono ?_
          rintro e w4 ⟨rfl, rfl⟩
          go_wp2_with fail
          go_roundw
          case rel => exact ⟨j, _, L, R2, c2, by omega, by first | rfl | go_num, rfl, hr2, hb2, hL2, HN.out⟩
          case measure => simp [intOf] <;> omega
        · have HN := hid (hYes.out 1 hb (by omega))
          rw [show 2 * r + 1 = r + r + 1 by omega] at HN
          have HO1 := hid (fun w1 hw R cc => HO.out w1 hw R cc (r + r + 1))
          have hlt : m ≤ r + r + 1 := by omega
          clear HO hYes hNo hb
          go_wp2_with fail
          refine (HP.out _ _ _ _ hr (by omega)).mono ?_
          rintro e w1 ⟨R1, c1, rfl, hr1, h1, hf1⟩
          have hb1 := hbl.trans (h1.mono hwz)
          have hL1 := hL.below h1 hgl
          go_wp2_with fail
          refine (HBj.out _ hb1).mono ?_
          rintro e w2 ⟨rfl, rfl⟩
          go_wp2_with fail
          refine (HP1.out _ _ _ _ _ hr1.alloc (mg_one _) (by omega)).mono ?_
          rintro e w3 ⟨R2, c2, rfl, hr2, h2, hf2⟩
          have hb2 : Below w.heap.size w w3 := (hb1.alloc hb1.size _).trans (h2.mono (by have := hb1.size; simp; omega))
          have hgl1 := hL1.lt
          have hL2 := (hL1.alloc (.cells #[.int .u32 1] 57)).below h2 (by simp; omega)
          have ho : 0 ≤ ord (r + r + 1) m := by unfold ord; rw [if_neg (by omega)]; split <;> omega
          generalize ord (r + r + 1) m = ov at *
          go_wp2_with fail
          refine (HO1.out _ hb2 _ _ hr2 (by omega)).mono ?_
          rintro e w4 ⟨rfl, rfl⟩
          go_wp2_with fail
          refine (HM.out _ hb2 _ _ _ hr2 (by omega) hlt).mono ?_
          rintro e w5 ⟨R5, c5, rfl, hr5, h5, hf5⟩
          have hb5 := (hb2).trans (h5.mono (hb2).size)
          have hL5 := (hL2).below h5 (hL2).lt
          have cell0 := hL5.cell J hkL
          have free0 := hL5.free J
          have hz5 := hb5.size
          have hgl5 := hL5.lt
          have hzz := (hL2).lt
          go_wp2_with fail
          go_roundw
          case rel => exact ⟨j, _, L.set J (L[J] + 2 ^ t), R5, c5, by omega, by first | rfl | go_num, rfl, hr5.set_far (fun p hp => by have := hf5.out p hp; omega) _ _, below_set hb5 (Nat.le_refl _) _ _, hL5.set_ _ _ _ HE.out, HN.out⟩
          case measure => simp [intOf] <;> omega
    · obtain rfl : k = 0 := by omega
      obtain ⟨hv1, hv2⟩ := hg.out.last
      rw [VX.out] at hv1 hv2
      subst hv1
      have HV := hid hv2
      have HG := hid hg.out.ok
      have HLn := hid hg.out.len
      clear hv2 hg
      have hll := HLn.out
      have HT := RTrim_any _ _ _ _ (hL.mg HG.out (by omega)) (by omega)
      rw [hll, HV.out] at HT
      have HT := hid HT
      go_wp2_with (go_at_call 90; refine HT.out.mono ?_; rintro e w1 ⟨R1, c1, rfl, hr1, h1⟩)
      go_ret2
      exact ⟨_, _, _, _, rfl, hr1, hr.below h1, hbl.trans (h1.mono hwz)⟩
end Go.Proofs.YtkfpcohdbbhmaaaDoor
