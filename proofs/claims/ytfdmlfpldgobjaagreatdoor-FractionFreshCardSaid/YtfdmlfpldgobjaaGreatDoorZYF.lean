/- Package barscan/fraction: the walks of its natural numbers (the same Go text as those of barscan/bigint). Conditions: none. -/
import Derived.Test.YtfdmlfpldgobjaaGreatDoorZBaA
import Derived.Test.YtfdmlfpldgobjaaGreatDoorZBiB
set_option linter.unusedVariables false
set_option linter.unusedSimpArgs false
namespace Go.Proofs.YtfdmlfpldgobjaaGreatDoor
open Go.RowKit Big
set_option maxHeartbeats 400000 in
theorem Frtrim_at (A : Option Addr) (c : Nat) (xs : List Nat) (w : World) (h : Mg w A c xs) :
  Calls Tryz.prog 89 #[.slice A xs.length c] w (RetNA w A (val xs)) := by
 have hcap := h.cap
 have hmax := h.max
 go_enter Tryz.func89, Tryz.ntmps89
 go_wp2
 go_loop [3] (fun i => ∃ k : Nat, k ≤ xs.length ∧ i = .int .i64 k ∧ Hid (∀ i, k ≤ i → (hi : i < xs.length) → xs[i] = 0)) (fun i => (intOf i).toNat)
 case atStart => exact ⟨xs.length, Nat.le_refl _, rfl, fun i h1 h2 => absurd h1 (by omega)⟩
 case round =>
  obtain ⟨k, hk, rfl, hz⟩ := hrel
  by_cases h0 : 0 < k
  ·have hk1 : k - 1 < xs.length := by omega
   obtain ⟨b, o, rfl, hb, hc⟩ := h.rd.at_ hk1
   have c1 := hc (k - 1) hk1
   unfold lim at c1
   clear hc
   by_cases he : xs[k - 1] = 0
   ·have he1 : ((xs[k - 1] : Int) == 0) = true := by simp [he]
    have HE := hid he
    clear he
    go_wp2
    go_round
    case rel => exact ⟨k - 1, by omega, by go_num, fun i h1 h2 => by
     by_cases hj : i = k - 1
     ·subst hj; exact HE.out
     ·exact hz.out i (by omega) h2⟩
    case measure => simp [intOf]; omega
   ·have he1 : ((xs[k - 1] : Int) == 0) = false := by simp; omega
    have HE := hid he
    clear he
    go_wp2
    go_ret
    exact fin_trim h (Below.refl _ _) k hk hz.out (.inr ⟨hk1, HE.out⟩)
  ·have hk0 : k = 0 := by omega
   subst hk0
   go_wp2
   go_ret
   exact fin_trim h (Below.refl _ _) 0 hk hz.out (.inl rfl)
theorem Frtrim_any (A : Option Addr) (c : Nat) (xs : List Nat) (w : World) (h : Mg w A c xs) :
  Calls Tryz.prog 89 #[.slice A xs.length c] w (RetN w (val xs)) := (Frtrim_at A c xs w h).mono fun _ _ h => h.any
/-- split: the low and the high limb. -/
theorem Frsplit_any (p : Int) (w : World) (h0 : 0 ≤ p) (hp : p ≤ 18446744073709551615) :
  Calls Tryz.prog 92 #[.int .u64 p] w fun e w' => e = .returned (.agg #[.int .u32 (p % 4294967296), .int .u32 (p / 4294967296)]) ∧ Below w.heap.size w w' := by
 obtain ⟨n, rfl⟩ := Int.eq_ofNat_of_zero_le h0
 go_enter Tryz.func92, Tryz.ntmps92
 go_wp2
 exact bodyPost_ret (v := .agg #[.int .u32 ((n : Int) % 4294967296), .int .u32 ((n : Int) / 4294967296)]) (by simp [results, Tryz.results92, go_sem]) rfl ⟨rfl, (Below.refl _ _).alloc (Nat.le_refl _) _⟩
theorem Fradd_fin {A B : Option Addr} {c d : Nat} {xs ys L : List Nat} {w wr : World} {q : Nat} {R : Ending → World → Prop} (ha : Mg w A c xs) (hb : Mg w B d ys) (hl : ys.length ≤ xs.length) (hs : xs.length ≤ 1073741824)
  (hat : AddAt xs ys xs.length q L) (hL : LB wr w.heap.size L) (hbl : Below w.heap.size w wr) (hq : q ≤ 1) (hR : ∀ e w', RetN w (val xs + val ys) e w' → R e w') :
  Calls Tryz.prog 89 #[.slice (some ⟨w.heap.size, 0, none⟩) (xs.length + 1) (xs.length + 1)] (wr.setCell ⟨w.heap.size, xs.length, none⟩ (.int .u32 q)) R := by
 have hlen := hat.len (Nat.le_succ _)
 have e := hat.last rfl hl
 have hS := hL.set_ xs.length (q : Int) q rfl
 rw [e] at hS
 have hll : (addC xs ys 0).length = xs.length + 1 := by rw [length_addC]; omega
 have hm := hS.mg (ok_addC xs ys 0 ha.ok hb.ok (by omega)) (by omega)
 have ht := Frtrim_any _ _ _ _ hm
 rw [hll, val_addC] at ht
 refine ht.mono fun e' w' h => hR _ _ ?_
 obtain ⟨A', c', h1, h2, h3⟩ := h
 exact ⟨A', c', h1, h2, (hbl.setCell (by exact Nat.le_refl _) _).trans (h3.mono (by simpa using hbl.size))⟩
set_option maxHeartbeats 1000000 in
theorem Fradd_le (A B : Option Addr) (c d : Nat) (xs ys : List Nat) (w : World) (ha : Mg w A c xs) (hb : Mg w B d ys) (hl : ys.length ≤ xs.length) (hs : xs.length ≤ 1073741824) :
  Calls Tryz.prog 93 #[.slice A xs.length c, .slice B ys.length d] w (RetN w (val xs + val ys)) := by
 have hlt : ¬ (xs.length : Int) < (ys.length : Int) := by omega
 have hmk := make32 (xs.length + 1) (by omega)
 rw [show ((xs.length + 1 : Nat) : Int) = (xs.length : Int) + 1 from by omega] at hmk
 go_enter Tryz.func93, Tryz.ntmps93
 go_wp2
 go_loopw [6, 23] (fun cr i wr => ∃ (k q : Nat) (L : List Nat), k ≤ xs.length ∧ i = .int .i64 k ∧ cr = .int .u32 q ∧ q ≤ 1 ∧ Below w.heap.size w wr ∧ LB wr w.heap.size L ∧ AddAt xs ys k q L) (fun _ i _ => xs.length - (intOf i).toNat)
 case atStart => exact ⟨0, 0, _, Nat.zero_le _, rfl, rfl, by omega, (Below.refl _ _).alloc (Nat.le_refl _) _, LB.made w (xs.length + 1), .start _ _⟩
 case round =>
  obtain ⟨k, q, L, hk, rfl, rfl, hq, hbl, hL, hat⟩ := hrel
  have hgl := hL.lt
  have hlen := hat.len (by omega)
  have hkL : k < L.length := by omega
  have HL := hid hlen
  clear hlen
  have cell0 := hL.cell k hkL
  have free0 := hL.free k
  have hwz := hbl.size
  by_cases hkl : k < xs.length
  ·obtain ⟨ba, oa, rfl, hba, hca⟩ := ha.rd.at_ hkl
   have c1 := (hbl.cell (p := ⟨ba, oa + k, none⟩) hba).trans (hca k hkl)
   have o1 := ha.ok.get hkl
   have hba2 : ba < wr.heap.size := by omega
   unfold lim at c1
   clear hca
   by_cases hky : k < ys.length
   ·obtain ⟨bb, ob, rfl, hbb, hcb⟩ := hb.rd.at_ hky
    have c2 := (hbl.cell (p := ⟨bb, ob + k, none⟩) hbb).trans (hcb k hky)
    have o2 := hb.ok.get hky
    have hbb2 : bb < wr.heap.size := by omega
    unfold lim at c2
    clear hcb
    go_wp2_with (go_at_call 92; refine (Frsplit_any _ _ (by omega) (by omega)).mono ?_; rintro e w1 ⟨rfl, hb1⟩; obtain ⟨hc1, hf1⟩ := bcell hb1; have hgl1 := Nat.lt_of_lt_of_le hgl hb1.size)
    go_region
    go_wp2
    go_roundw
    case rel => exact ⟨k + 1, (xs[k] + q + ys[k]) / 4294967296, L.set k ((xs[k] + q + ys[k]) % 4294967296), by omega, by go_num, by go_num, by omega, (by repeat (first | exact hbl | exact hbl.trans (hb1.mono hwz) | refine Below.drew ?_ | refine below_drewN ?_ _ | refine Below.setCell ?_ (by exact Nat.le_refl _) _ | refine Below.alloc ?_ (by simp; omega) _)), (by repeat (first | exact hL | exact hL.below hb1 hgl | refine LB.drew ?_ | refine LB.drewN ?_ _ | refine LB.alloc ?_ _ | refine LB.set_ ?_ _ _ _ (by omega))), hat.both hkl hky⟩
    case measure => simp [intOf]; omega
   ·go_wp2_with (go_at_call 92; refine (Frsplit_any _ _ (by omega) (by omega)).mono ?_; rintro e w1 ⟨rfl, hb1⟩; obtain ⟨hc1, hf1⟩ := bcell hb1; have hgl1 := Nat.lt_of_lt_of_le hgl hb1.size)
    go_region
    go_wp2
    go_roundw
    case rel => exact ⟨k + 1, (xs[k] + q) / 4294967296, L.set k ((xs[k] + q) % 4294967296), by omega, by go_num, by go_num, by omega, (by repeat (first | exact hbl | exact hbl.trans (hb1.mono hwz) | refine Below.drew ?_ | refine below_drewN ?_ _ | refine Below.setCell ?_ (by exact Nat.le_refl _) _ | refine Below.alloc ?_ (by simp; omega) _)), (by repeat (first | exact hL | exact hL.below hb1 hgl | refine LB.drew ?_ | refine LB.drewN ?_ _ | refine LB.alloc ?_ _ | refine LB.set_ ?_ _ _ _ (by omega))), hat.left hkl (by omega)⟩
    case measure => simp [intOf]; omega
  ·obtain rfl : k = xs.length := by omega
   go_wp2_with (go_at_call 89; refine Fradd_fin ha hb hl hs hat hL hbl hq ?_; rintro e w1 ⟨R, cc, rfl, hr1, hr2⟩)
   go_ret
   exact ⟨R, cc, rfl, hr1, hr2⟩
set_option maxHeartbeats 1000000 in
theorem Fradd_gt (A B : Option Addr) (c d : Nat) (xs ys : List Nat) (w : World) (ha : Mg w A c xs) (hb : Mg w B d ys) (hll : xs.length < ys.length) (hs : ys.length ≤ 1073741824) :
  Calls Tryz.prog 93 #[.slice A xs.length c, .slice B ys.length d] w (RetN w (val ys + val xs)) := by
 have hl : xs.length ≤ ys.length := by omega
 have hlt : (xs.length : Int) < (ys.length : Int) := by omega
 have hmk := make32 (ys.length + 1) (by omega)
 rw [show ((ys.length + 1 : Nat) : Int) = (ys.length : Int) + 1 from by omega] at hmk
 go_enter Tryz.func93, Tryz.ntmps93
 go_wp2
 go_loopw [6, 23] (fun cr i wr => ∃ (k q : Nat) (L : List Nat), k ≤ ys.length ∧ i = .int .i64 k ∧ cr = .int .u32 q ∧ q ≤ 1 ∧ Below w.heap.size w wr ∧ LB wr w.heap.size L ∧ AddAt ys xs k q L) (fun _ i _ => ys.length - (intOf i).toNat)
 case atStart => exact ⟨0, 0, _, Nat.zero_le _, rfl, rfl, by omega, (Below.refl _ _).alloc (Nat.le_refl _) _, LB.made w (ys.length + 1), .start _ _⟩
 case round =>
  obtain ⟨k, q, L, hk, rfl, rfl, hq, hbl, hL, hat⟩ := hrel
  have hgl := hL.lt
  have hlen := hat.len (by omega)
  have hkL : k < L.length := by omega
  have HL := hid hlen
  clear hlen
  have cell0 := hL.cell k hkL
  have free0 := hL.free k
  have hwz := hbl.size
  by_cases hkl : k < ys.length
  ·obtain ⟨ba, oa, rfl, hba, hca⟩ := hb.rd.at_ hkl
   have c1 := (hbl.cell (p := ⟨ba, oa + k, none⟩) hba).trans (hca k hkl)
   have o1 := hb.ok.get hkl
   have hba2 : ba < wr.heap.size := by omega
   unfold lim at c1
   clear hca
   by_cases hky : k < xs.length
   ·obtain ⟨bb, ob, rfl, hbb, hcb⟩ := ha.rd.at_ hky
    have c2 := (hbl.cell (p := ⟨bb, ob + k, none⟩) hbb).trans (hcb k hky)
    have o2 := ha.ok.get hky
    have hbb2 : bb < wr.heap.size := by omega
    unfold lim at c2
    clear hcb
    go_wp2_with (go_at_call 92; refine (Frsplit_any _ _ (by omega) (by omega)).mono ?_; rintro e w1 ⟨rfl, hb1⟩; obtain ⟨hc1, hf1⟩ := bcell hb1; have hgl1 := Nat.lt_of_lt_of_le hgl hb1.size)
    go_region
    go_wp2
    go_roundw
    case rel => exact ⟨k + 1, (ys[k] + q + xs[k]) / 4294967296, L.set k ((ys[k] + q + xs[k]) % 4294967296), by omega, by go_num, by go_num, by omega, (by repeat (first | exact hbl | exact hbl.trans (hb1.mono hwz) | refine Below.drew ?_ | refine below_drewN ?_ _ | refine Below.setCell ?_ (by exact Nat.le_refl _) _ | refine Below.alloc ?_ (by simp; omega) _)), (by repeat (first | exact hL | exact hL.below hb1 hgl | refine LB.drew ?_ | refine LB.drewN ?_ _ | refine LB.alloc ?_ _ | refine LB.set_ ?_ _ _ _ (by omega))), hat.both hkl hky⟩
    case measure => simp [intOf]; omega
   ·go_wp2_with (go_at_call 92; refine (Frsplit_any _ _ (by omega) (by omega)).mono ?_; rintro e w1 ⟨rfl, hb1⟩; obtain ⟨hc1, hf1⟩ := bcell hb1; have hgl1 := Nat.lt_of_lt_of_le hgl hb1.size)
    go_region
    go_wp2
    go_roundw
    case rel => exact ⟨k + 1, (ys[k] + q) / 4294967296, L.set k ((ys[k] + q) % 4294967296), by omega, by go_num, by go_num, by omega, (by repeat (first | exact hbl | exact hbl.trans (hb1.mono hwz) | refine Below.drew ?_ | refine below_drewN ?_ _ | refine Below.setCell ?_ (by exact Nat.le_refl _) _ | refine Below.alloc ?_ (by simp; omega) _)), (by repeat (first | exact hL | exact hL.below hb1 hgl | refine LB.drew ?_ | refine LB.drewN ?_ _ | refine LB.alloc ?_ _ | refine LB.set_ ?_ _ _ _ (by omega))), hat.left hkl (by omega)⟩
    case measure => simp [intOf]; omega
  ·obtain rfl : k = ys.length := by omega
   go_wp2_with (go_at_call 89; refine Fradd_fin hb ha hl hs hat hL hbl hq ?_; rintro e w1 ⟨R, cc, rfl, hr1, hr2⟩)
   go_ret
   exact ⟨R, cc, rfl, hr1, hr2⟩
theorem Fradd_any (A B : Option Addr) (c d : Nat) (xs ys : List Nat) (w : World) (ha : Mg w A c xs) (hb : Mg w B d ys) (hs : xs.length ≤ 1073741824) (ht : ys.length ≤ 1073741824) :
  Calls Tryz.prog 93 #[.slice A xs.length c, .slice B ys.length d] w (RetN w (val xs + val ys)) := by
 by_cases h : ys.length ≤ xs.length
 ·exact Fradd_le A B c d xs ys w ha hb h hs
 ·rw [Nat.add_comm]
  exact Fradd_gt A B c d xs ys w ha hb (by omega) ht
set_option maxHeartbeats 1000000 in
theorem Frcompare_any (A B : Option Addr) (c d : Nat) (xs ys : List Nat) (w : World) (ha : Mg w A c xs) (hb : Mg w B d ys) (na : Nrm xs) (nb : Nrm ys) :
  Calls Tryz.prog 54 #[.slice A xs.length c, .slice B ys.length d] w (RetI w (ord (val xs) (val ys))) := by
 have m1 := ha.cap
 have m2 := ha.max
 have m3 := hb.cap
 have m4 := hb.max
 by_cases hl : xs.length = ys.length
 ·have hl1 : ((xs.length : Int) != (ys.length : Int)) = false := by simp [hl]
  have HL := hid hl
  clear hl
  go_enter Tryz.func54, Tryz.ntmps54
  go_wp2
  go_loopw [5] (fun i wr => ∃ k : Nat, k ≤ xs.length ∧ i = .int .i64 ((k : Int) - 1) ∧ Below w.heap.size w wr ∧ Hid (xs.drop k = ys.drop k)) (fun i _ => (intOf i + 1).toNat)
  case atStart => exact ⟨xs.length, Nat.le_refl _, rfl, Below.refl _ _, by unfold Hid; rw [List.drop_length, HL.out, List.drop_length]⟩
  case round =>
   obtain ⟨k, hk, rfl, hbl, heq⟩ := hrel
   by_cases h0 : 0 < k
   ·have hk1 : k - 1 < xs.length := by omega
    have hk2 : k - 1 < ys.length := by have := HL.out; omega
    obtain ⟨ba, oa, rfl, hba, hca⟩ := ha.rd.at_ hk1
    obtain ⟨bb, ob, rfl, hbb, hcb⟩ := hb.rd.at_ hk2
    have c1 := (hbl.cell (p := ⟨ba, oa + (k - 1), none⟩) hba).trans (hca (k - 1) hk1)
    have c2 := (hbl.cell (p := ⟨bb, ob + (k - 1), none⟩) hbb).trans (hcb (k - 1) hk2)
    unfold lim at c1 c2
    clear hca hcb
    have D := fun h => val_drop_lt (a := xs) (b := ys) ha.ok (k - 1) HL.out hk1 (by rw [show k - 1 + 1 = k by omega]; exact heq.out) h
    have E := fun h => val_drop_lt (a := ys) (b := xs) hb.ok (k - 1) HL.out.symm hk2 (by rw [show k - 1 + 1 = k by omega]; exact heq.out.symm) h
    have HD := hid D
    have HE := hid E
    clear D E
    by_cases hlt : xs[k - 1] < ys[k - 1]
    ·have t1 : decide ((xs[k - 1] : Int) < (ys[k - 1] : Int)) = true := by simp; omega
     go_wp2
     go_quiet (fail)
     go_wp2
     go_ret
     exact ⟨ret_int (ord_lt (HD.out hlt)).symm, (by repeat (first | exact hbl | refine Below.drew ?_ | refine below_drewN ?_ _ | refine Below.setCell ?_ (by exact Nat.le_refl _) _ | refine Below.alloc ?_ (by simp; omega) _))⟩
    ·have t1 : decide ((xs[k - 1] : Int) < (ys[k - 1] : Int)) = false := by simp; omega
     by_cases hgt : ys[k - 1] < xs[k - 1]
     ·have t2 : decide ((ys[k - 1] : Int) < (xs[k - 1] : Int)) = true := by simp; omega
      go_wp2
      go_quiet (fail)
      go_wp2
      go_quiet (fail)
      go_wp2
      go_ret
      exact ⟨ret_int (ord_gt (HE.out hgt)).symm, (by repeat (first | exact hbl | refine Below.drew ?_ | refine below_drewN ?_ _ | refine Below.setCell ?_ (by exact Nat.le_refl _) _ | refine Below.alloc ?_ (by simp; omega) _))⟩
     ·have t2 : decide ((ys[k - 1] : Int) < (xs[k - 1] : Int)) = false := by simp; omega
      have he : Hid (xs[k - 1] = ys[k - 1]) := Nat.le_antisymm (by omega) (by omega)
      go_wp2
      go_quiet (fail)
      go_wp2
      go_quiet (fail)
      go_wp2
      go_roundw
      case rel => exact ⟨k - 1, by omega, by go_num, (by repeat (first | exact hbl | refine Below.drew ?_ | refine below_drewN ?_ _ | refine Below.setCell ?_ (by exact Nat.le_refl _) _ | refine Below.alloc ?_ (by simp; omega) _)), drop_step hk1 hk2 h0 heq.out he.out⟩
      case measure => simp [intOf]; omega
   ·have hk0 : k = 0 := by omega
    subst hk0
    go_wp2
    go_ret
    have e : xs = ys := heq.out
    subst e
    exact ⟨ret_int (ord_eq _).symm, hbl⟩
 ·have hl1 : ((xs.length : Int) != (ys.length : Int)) = true := by simp; omega
  by_cases hlt : xs.length < ys.length
  ·have h2 : (xs.length : Int) < (ys.length : Int) := by omega
   go_enter Tryz.func54, Tryz.ntmps54
   go_wp2
   go_ret
   exact ⟨ret_int (ord_lt (val_len_lt ha.ok nb hlt)).symm, Below.refl _ _⟩
  ·have h2 : ¬ (xs.length : Int) < (ys.length : Int) := by omega
   go_enter Tryz.func54, Tryz.ntmps54
   go_wp2
   go_ret
   exact ⟨ret_int (ord_gt (val_len_lt hb.ok na (by omega))).symm, Below.refl _ _⟩
theorem Frsub_fin {A B : Option Addr} {c d : Nat} {xs ys L : List Nat} {w wr : World} {q : Nat} {R : Ending → World → Prop} (ha : Mg w A c xs) (hb : Mg w B d ys) (hl : ys.length ≤ xs.length) (hle : val ys ≤ val xs) (hs : xs.length ≤ 1073741824)
  (hat : SubAt xs ys xs.length q L) (hL : LB wr w.heap.size L) (hbl : Below w.heap.size w wr) (hR : ∀ e w', RetN w (val xs - val ys) e w' → R e w') :
  Calls Tryz.prog 89 #[.slice (some ⟨w.heap.size, 0, none⟩) xs.length xs.length] wr R := by
 have e := hat.last
 subst e
 have hll : (subB xs ys 0).length = xs.length := length_subB _ _ _
 have hm := hL.mg (ok_subB xs ys 0) (by omega)
 have ht := Frtrim_any _ _ _ _ hm
 rw [hll, val_subB xs ys 0 ha.ok hb.ok (by omega) hl (by omega), Nat.sub_zero] at ht
 refine ht.mono fun e' w' h => hR _ _ ?_
 obtain ⟨A', c', h1, h2, h3⟩ := h
 exact ⟨A', c', h1, h2, hbl.trans (h3.mono hbl.size)⟩
set_option maxHeartbeats 1000000 in
theorem Frsubtract_any (A B : Option Addr) (c d : Nat) (xs ys : List Nat) (w : World) (ha : Mg w A c xs) (hb : Mg w B d ys) (hl : ys.length ≤ xs.length) (hle : val ys ≤ val xs) (hs : xs.length ≤ 1073741824) :
  Calls Tryz.prog 94 #[.slice A xs.length c, .slice B ys.length d] w (RetN w (val xs - val ys)) := by
 have hmk := make32 xs.length (by omega)
 have HLE := hid hle
 clear hle
 go_enter Tryz.func94, Tryz.ntmps94
 go_wp2
 go_loopw [6, 14] (fun cr i wr => ∃ (k q : Nat) (L : List Nat), k ≤ xs.length ∧ i = .int .i64 k ∧ cr = .int .u64 q ∧ q ≤ 1 ∧ Below w.heap.size w wr ∧ LB wr w.heap.size L ∧ SubAt xs ys k q L) (fun _ i _ => xs.length - (intOf i).toNat)
 case atStart => exact ⟨0, 0, _, Nat.zero_le _, rfl, rfl, by omega, (Below.refl _ _).alloc (Nat.le_refl _) _, LB.made w xs.length, .start _ _⟩
 case round =>
  obtain ⟨k, q, L, hk, rfl, rfl, hq, hbl, hL, hat⟩ := hrel
  have hgl := hL.lt
  by_cases hkl : k < xs.length
  ·have hkL : k < L.length := by rw [hat.len hk]; exact hkl
   have cell0 := hL.cell k hkL
   have free0 := hL.free k
   have hwz := hbl.size
   obtain ⟨ba, oa, rfl, hba, hca⟩ := ha.rd.at_ hkl
   have c1 := (hbl.cell (p := ⟨ba, oa + k, none⟩) hba).trans (hca k hkl)
   have o1 := ha.ok.get hkl
   have hba2 : ba < wr.heap.size := by omega
   unfold lim at c1
   clear hca
   by_cases hky : k < ys.length
   ·obtain ⟨bb, ob, rfl, hbb, hcb⟩ := hb.rd.at_ hky
    have c2 := (hbl.cell (p := ⟨bb, ob + k, none⟩) hbb).trans (hcb k hky)
    have o2 := hb.ok.get hky
    have hbb2 : bb < wr.heap.size := by omega
    unfold lim at c2
    clear hcb
    go_wp2
    go_roundw
    case rel => exact ⟨k + 1, _, _, by omega, by go_num, val_i (sub_hi _ _ _ o1 o2 hq), ite_le1 _, (by repeat (first | exact hbl | refine Below.drew ?_ | refine below_drewN ?_ _ | refine Below.setCell ?_ (by exact Nat.le_refl _) _ | refine Below.alloc ?_ (by simp; omega) _)), hL.set_ _ _ _ (sub_lo _ _ _ o1 o2 hq), hat.both hkl hky⟩
    case measure => simp [intOf]; omega
   ·go_wp2
    go_roundw
    case rel => exact ⟨k + 1, _, _, by omega, by go_num, val_i (sub_hi1 _ _ o1 hq), ite_le1 _, (by repeat (first | exact hbl | refine Below.drew ?_ | refine below_drewN ?_ _ | refine Below.setCell ?_ (by exact Nat.le_refl _) _ | refine Below.alloc ?_ (by simp; omega) _)), hL.set_ _ _ _ (sub_lo1 _ _ o1 hq), hat.left hkl (by omega)⟩
    case measure => simp [intOf]; omega
  ·obtain rfl : k = xs.length := by omega
   go_wp2_with (go_at_call 89; refine Frsub_fin ha hb hl HLE.out hs hat hL hbl ?_; rintro e w1 ⟨R, cc, rfl, hr1, hr2⟩)
   go_ret
   exact ⟨R, cc, rfl, hr1, hr2⟩
/-- what is left after the last store: trim -/
theorem Frtrim_fin {L : List Nat} {w wr : World} {n : Nat} {R : Ending → World → Prop} (hL : LB wr w.heap.size L) (ho : Ok L) (hl : L.length = n) (hn : n ≤ 4294967296) (v : Nat) (hv : val L = v) (hbl : Below w.heap.size w wr) (hR : ∀ e w', RetN w v e w' → R e w') :
  Calls Tryz.prog 89 #[.slice (some ⟨w.heap.size, 0, none⟩) n n] wr R := by
 subst hl; subst hv
 have hm := hL.mg ho (by omega)
 refine (Frtrim_any _ _ _ _ hm).mono fun e' w' h => hR _ _ ?_
 obtain ⟨A', c', h1, h2, h3⟩ := h
 exact ⟨A', c', h1, h2, hbl.trans (h3.mono hbl.size)⟩
theorem Frtrim_finA {L : List Nat} {w wr : World} {n : Nat} {R : Ending → World → Prop} (hL : LB wr w.heap.size L) (ho : Ok L) (hl : L.length = n) (hn : n ≤ 4294967296) (v : Nat) (hv : val L = v) (hbl : Below w.heap.size w wr) (hR : ∀ e w', RetNA w (some ⟨w.heap.size, 0, none⟩) v e w' ∧ Hid (Nw w.heap.size w' (some ⟨w.heap.size, 0, none⟩)) → R e w') :
  Calls Tryz.prog 89 #[.slice (some ⟨w.heap.size, 0, none⟩) n n] wr R := by
 subst hl; subst hv
 have hm := hL.mg ho (by omega)
 refine (Frtrim_at _ _ _ _ hm).mono fun e' w' h => hR _ _ ?_
 obtain ⟨c', h1, h2, h3⟩ := h
 exact ⟨⟨c', h1, h2, hbl.trans (h3.mono hbl.size)⟩, (hL.nw (Nat.le_refl _)).below h3⟩
end Go.Proofs.YtfdmlfpldgobjaaGreatDoor
/- Package barscan/fraction: the walks of its natural numbers (the same Go text as those of barscan/bigint). Conditions: none. -/
namespace Go.Proofs.YtfdmlfpldgobjaaGreatDoor
open Go.RowKit Big
set_option maxHeartbeats 1000000 in
theorem FrdivideSmall_nw (A : Option Addr) (c : Nat) (xs : List Nat) (d : Nat) (w : World) (ha : Mg w A c xs) (h0 : 0 < d) (hd : d < 4294967296) (hs : xs.length ≤ 1073741824) :
  Calls Tryz.prog 85 #[.slice A xs.length c, .int .u32 d] w fun e w' => RetNRF w (val xs / d) (val xs % d) e w' ∧ Hid (Nw w.heap.size w' (some ⟨w.heap.size, 0, none⟩)) := by
 have hmk := make32 xs.length (by omega)
 go_enter Tryz.func85, Tryz.ntmps85
 go_wp2
 go_loopw [5, 6] (fun rr i wr => ∃ (k r : Nat) (L : List Nat), k ≤ xs.length ∧ i = .int .i64 ((k : Int) - 1) ∧ rr = .int .u32 r ∧ Below w.heap.size w wr ∧ LB wr w.heap.size L ∧ DivAt d xs k r L) (fun _ i _ => (intOf i + 1).toNat)
 case atStart => exact ⟨xs.length, 0, _, Nat.le_refl _, rfl, rfl, (Below.refl _ _).alloc (Nat.le_refl _) _, LB.made w xs.length, .start _ _⟩
 case round =>
  obtain ⟨k, r, L, hk, rfl, rfl, hbl, hL, hat⟩ := hrel
  have hgl := hL.lt
  have hr := hat.lt h0
  by_cases hk0 : 0 < k
  ·have hk1 : k - 1 < xs.length := by omega
   have hkL : k - 1 < L.length := by rw [hat.len hk]; exact hk1
   have cell0 := hL.cell (k - 1) hkL
   have free0 := hL.free (k - 1)
   have hwz := hbl.size
   obtain ⟨ba, oa, rfl, hba, hca⟩ := ha.rd.at_ hk1
   have c1 := (hbl.cell (p := ⟨ba, oa + (k - 1), none⟩) hba).trans (hca (k - 1) hk1)
   have o1 := ha.ok.get hk1
   have hba2 : ba < wr.heap.size := by omega
   unfold lim at c1
   clear hca
   have hor := or32 r xs[k - 1] (by omega) o1
   have hq := div_lt_B hr o1
   have hq1 : ((r : Int) * 4294967296 + (xs[k - 1] : Int)) / (d : Int) = (((r * 4294967296 + xs[k - 1]) / d : Nat) : Int) := cast_div r _ d
   have hq2 : ((r : Int) * 4294967296 + (xs[k - 1] : Int)) % (d : Int) = (((r * 4294967296 + xs[k - 1]) % d : Nat) : Int) := cast_mod r _ d
   have hm := Nat.mod_lt (r * 4294967296 + xs[k - 1]) h0
   generalize hQ : (r * 4294967296 + xs[k - 1]) / d = Q at hq hq1
   generalize hR : (r * 4294967296 + xs[k - 1]) % d = R at hm hq2
   have HQ := hid hQ
   have HR := hid hR
   clear hQ hR
   go_wp2
   go_region
   go_wp2
   go_roundw
   case rel => exact ⟨k - 1, R, L.set (k - 1) Q, by omega, by go_num, by go_num, (by repeat (first | exact hbl | refine Below.drew ?_ | refine below_drewN ?_ _ | refine Below.setCell ?_ (by exact Nat.le_refl _) _ | refine Below.alloc ?_ (by simp; omega) _)), (by repeat (first | exact hL | refine LB.drew ?_ | refine LB.drewN ?_ _ | refine LB.alloc ?_ _ | refine LB.set_ ?_ _ _ _ (by omega))), by rw [← HQ.out, ← HR.out]; exact hat.step hk0 hk1⟩
   case measure => simp [intOf]; omega
  ·obtain rfl : k = 0 := by omega
   have hv := divS_eq d h0 xs
   have hLL : L = (divS d xs).1 := by simpa using hat.1
   have hrr : r = (divS d xs).2 := by simpa using hat.2
   have HV := hid hv; clear hv
   have HL1 := hid hLL; clear hLL
   have HR1 := hid hrr; clear hrr
   go_wp2_with (go_at_call 89; refine Frtrim_finA hL (by rw [HL1.out]; exact ok_divS d h0 xs ha.ok) (hat.len (Nat.zero_le _)) (by omega) (val xs / d) (by rw [HL1.out, HV.out.1]) hbl ?_; rintro e w1 ⟨⟨cc, rfl, hr1, hr2⟩, hr3⟩)
   go_ret2
   exact ⟨⟨cc, by rw [HR1.out, HV.out.2]; rfl, hr1, hr2⟩, hr3⟩
set_option maxHeartbeats 400000 in
theorem FrfromWord_nw (u : Nat) (w : World) (hu : u ≤ 18446744073709551615) : Calls Tryz.prog 84 #[.int .u64 u] w (RetNn w u) := by
 have hm : ∀ w1 : World, Mg (w1.alloc (.cells #[.int .u32 ((u : Int) % 4294967296), .int .u32 ((u : Int) / 4294967296)] 102)) (some ⟨w1.heap.size, 0, none⟩) 2 [u % 4294967296, u / 4294967296] := fun w1 => by
  refine ⟨Nat.le_refl _, by omega, ?_, Rd.of_blk (heap_alloc_new _ _) ?_⟩
  ·intro x hx
   simp at hx
   omega
  ·intro j hj
   match j, hj with
   | 0, _ => simp [lim]
   | 1, _ => simp [lim]
 have hv : val [u % 4294967296, u / 4294967296] = u := by simp only [val]; omega
 have ht := fun w1 => Frtrim_at _ _ _ _ (hm w1)
 simp only [hv, List.length_cons, List.length_nil] at ht
 have HT := hid ht
 clear ht hm hv
 go_enter Tryz.func84, Tryz.ntmps84
 go_wp2_with (first | (go_at_call 92; refine (Frsplit_any _ _ (by omega) (by omega)).mono ?_; rintro e w1 ⟨rfl, hb1⟩) | (go_at_call 89; refine (HT.out _).mono ?_; rintro e w2 ⟨cc, rfl, hr1, hr2⟩))
 go_ret
 exact ⟨_, cc, rfl, hr1, (hb1.alloc hb1.size _).trans (hr2.mono (by simp; have := hb1.size; omega)), Nw.below (Nw.of_blk (heap_alloc_new _ _) hb1.size) hr2⟩
theorem FrfromWord_any (u : Nat) (w : World) (hu : u ≤ 18446744073709551615) : Calls Tryz.prog 84 #[.int .u64 u] w (RetN w u) := (FrfromWord_nw u w hu).mono fun _ _ h => h.any
set_option maxHeartbeats 400000 in
theorem Frword0 (A : Option Addr) (c : Nat) (w : World) : Calls Tryz.prog 83 #[.slice A 0 c] w fun e w' => e = .returned (.int .u64 0) ∧ w' = w := by
 go_enter Tryz.func83, Tryz.ntmps83
 go_wp2
 refine wp_loop_rounds 1 ?_; rw [rounds_succ]
 go_wp2
 go_ret
 exact ⟨rfl, rfl⟩
set_option maxHeartbeats 400000 in
theorem Frword1 (b o x c : Nat) (w : World) (hx : x < 4294967296) (h0 : w.cell? ⟨b, o, none⟩ = some (.int .u32 x)) : Calls Tryz.prog 83 #[.slice (some ⟨b, o, none⟩) 1 c] w fun e w' => e = .returned (.int .u64 x) ∧ w' = w := by
 have hor : bits .or .u64 0 (x : Int) = x := by have := or32 0 x (by omega) hx; simpa using this
 go_enter Tryz.func83, Tryz.ntmps83
 go_wp2
 refine wp_loop_rounds 2 ?_; rw [rounds_succ]
 go_wp2
 rw [rounds_succ]
 go_wp2
 go_ret
 exact ⟨rfl, rfl⟩
set_option maxHeartbeats 400000 in
theorem Frword2 (b o x y c : Nat) (w : World) (hx : x < 4294967296) (hy : y < 4294967296) (h0 : w.cell? ⟨b, o, none⟩ = some (.int .u32 x)) (h1 : w.cell? ⟨b, o + 1, none⟩ = some (.int .u32 y)) :
  Calls Tryz.prog 83 #[.slice (some ⟨b, o, none⟩) 2 c] w fun e w' => e = .returned (.int .u64 ((x : Int) + (y : Int) * 4294967296)) ∧ w' = w := by
 have hor : bits .or .u64 0 (x : Int) = x := by have := or32 0 x (by omega) hx; simpa using this
 have hor2 := or32' y x hy hx
 go_enter Tryz.func83, Tryz.ntmps83
 go_wp2
 refine wp_loop_rounds 3 ?_; rw [rounds_succ]
 go_wp2
 rw [rounds_succ]
 go_wp2
 rw [rounds_succ]
 go_wp2
 go_ret
 exact ⟨rfl, rfl⟩
theorem Frword_any (A : Option Addr) (c : Nat) (xs : List Nat) (w : World) (h : Mg w A c xs) (hl : xs.length ≤ 2) : Calls Tryz.prog 83 #[.slice A xs.length c] w fun e w' => e = .returned (.int .u64 (val xs : Nat)) ∧ Below w.heap.size w w' := by
 match xs, hl, h with
 | [], _, _ => exact (Frword0 A c w).mono fun e w' ⟨h1, h2⟩ => ⟨by rw [h1]; rfl, by rw [h2]; exact Below.refl _ _⟩
 | [x], _, h =>
  obtain ⟨b, o, rfl, hb, hc⟩ := h.rd.at_ (k := 0) (by simp)
  have c0 := hc 0 (by simp)
  refine (Frword1 b o x c w h.ok.head c0).mono fun e w' ⟨h1, h2⟩ => ⟨by rw [h1]; simp [val], by rw [h2]; exact Below.refl _ _⟩
 | [x, y], _, h =>
  obtain ⟨b, o, rfl, hb, hc⟩ := h.rd.at_ (k := 0) (by simp)
  have c0 := hc 0 (by simp)
  have c1 := hc 1 (by simp)
  refine (Frword2 b o x y c w h.ok.head h.ok.tail.head c0 c1).mono fun e w' ⟨h1, h2⟩ => ⟨by rw [h1]; exact ret_int (by simp only [val]; omega), by rw [h2]; exact Below.refl _ _⟩
 | _ :: _ :: _ :: _, hl, _ => simp at hl
set_option maxHeartbeats 1000000 in
theorem FrshiftLeft_any (A : Option Addr) (c n : Nat) (xs : List Nat) (w : World) (ha : Mg w A c xs) (hn : n ≤ 31) (hs : xs.length ≤ 1073741824) :
  Calls Tryz.prog 87 #[.slice A xs.length c, .int .i64 n] w (RetL w (shl (2 ^ n) xs 0)) := by
 have hmk := make32 (xs.length + 1) (by omega)
 rw [show ((xs.length + 1 : Nat) : Int) = (xs.length : Int) + 1 from by omega] at hmk
 obtain ⟨pm0, pm1, pm2⟩ := pow_cases hn
 have HP := hid pm2
 clear pm2
 go_enter Tryz.func87, Tryz.ntmps87
 go_wp2
 go_loopw [15] (fun i wr => ∃ (k : Nat) (L : List Nat), k ≤ xs.length ∧ i = .int .i64 k ∧ Below w.heap.size w wr ∧ LB wr w.heap.size L ∧ ShlAt (2 ^ n) xs k L) (fun i _ => xs.length - (intOf i).toNat)
 case atStart => exact ⟨0, _, Nat.zero_le _, rfl, (Below.refl _ _).alloc (Nat.le_refl _) _, LB.made w (xs.length + 1), .start _ _ pm0⟩
 case round =>
  obtain ⟨k, L, hk, rfl, hbl, hL, hat⟩ := hrel
  have hgl := hL.lt
  have hwz := hbl.size
  by_cases hkl : k < xs.length
  ·have hkL : k < L.length := by rw [hat.len hk]; omega
   have hkL1 : k + 1 < L.length := by rw [hat.len hk]; omega
   have cell0 := hL.cell k hkL
   have cell1 := hL.cell (k + 1) hkL1
   have free0 := hL.free k
   have free1 := hL.free (k + 1)
   obtain ⟨ba, oa, rfl, hba, hca⟩ := ha.rd.at_ hkl
   have c1 := (hbl.cell (p := ⟨ba, oa + k, none⟩) hba).trans (hca k hkl)
   have o1 := ha.ok.get hkl
   have hba2 : ba < wr.heap.size := by omega
   unfold lim at c1
   clear hca
   have hst := hat.step hkl o1 hkL
   have hlk := hat.got hkL
   have hpb : xs[k] * 2 ^ n ≤ 4294967295 * 2147483648 := Nat.mul_le_mul (by omega) pm1
   have hpow : IntKind.u64.wrap ((xs[k] : Int) * 2 ^ n) = ((xs[k] * 2 ^ n : Nat) : Int) := by
    rw [show (xs[k] : Int) * 2 ^ n = ((xs[k] * 2 ^ n : Nat) : Int) by push_cast; rfl, IntKind.wrap_u64]; omega
   have hj := shl_or (x := xs[k]) (c := L[k]) (n := n) HP.out rfl hlk
   have hor : bits .or .u32 (L[k] : Int) (((xs[k] * 2 ^ n : Nat) : Int) % 4294967296) = ((L[k] + xs[k] * 2 ^ n % 4294967296 : Nat) : Int) := by
    rw [show ((xs[k] * 2 ^ n : Nat) : Int) % 4294967296 = ((xs[k] * 2 ^ n % 4294967296 : Nat) : Int) by omega, u32_or_nat _ _ (by omega) (by omega), Nat.or_comm, nat_join n _ _ hj hlk, Nat.add_comm]
   generalize xs[k] * 2 ^ n = p at *
   clear hj hlk
   go_wp2_with (go_at_call 92; refine (Frsplit_any _ _ (by omega) (by omega)).mono ?_; rintro e w1 ⟨rfl, hb1⟩; obtain ⟨hc1, hf1⟩ := bcell hb1; have hgl1 := Nat.lt_of_lt_of_le hgl hb1.size)
   go_region
   go_wp2
   go_roundw
   case rel => exact ⟨k + 1, _, by omega, by go_num, (by repeat (first | exact hbl | exact hbl.trans (hb1.mono hwz) | refine Below.drew ?_ | refine below_drewN ?_ _ | refine Below.setCell ?_ (by exact Nat.le_refl _) _ | refine Below.alloc ?_ (by simp; omega) _)), (by repeat (first | exact hL | exact hL.below hb1 hgl | refine LB.drew ?_ | refine LB.drewN ?_ _ | refine LB.alloc ?_ _ | refine LB.set_ ?_ _ _ _ (by omega))), hst⟩
   case measure => simp [intOf]; omega
  ·obtain rfl : k = xs.length := by omega
   have e := hat.last
   have hl := hat.len (Nat.le_refl _)
   go_wp2
   go_ret
   exact ⟨_, Nat.le_refl _, by rw [length_shl]; rfl, by rw [← e]; exact hL, hbl⟩
set_option maxHeartbeats 1000000 in
theorem FrshiftRight_any (A : Option Addr) (c n : Nat) (xs : List Nat) (w : World) (ha : Mg w A c xs) (hn : n ≤ 31) (hs : xs.length ≤ 1073741824) :
  Calls Tryz.prog 90 #[.slice A xs.length c, .int .i64 n] w (RetN w (val xs / 2 ^ n)) := by
 have hmk := make32 xs.length (by omega)
 obtain ⟨pm0, pm1, pm2⟩ := pow_cases hn
 have HP := hid pm2
 clear pm2
 go_enter Tryz.func90, Tryz.ntmps90
 go_wp2
 go_loopw [14] (fun i wr => ∃ (k : Nat) (L : List Nat), k ≤ xs.length ∧ i = .int .i64 k ∧ Below w.heap.size w wr ∧ LB wr w.heap.size L ∧ ShrAt (2 ^ n) xs k L) (fun i _ => xs.length - (intOf i).toNat)
 case atStart => exact ⟨0, _, Nat.zero_le _, rfl, (Below.refl _ _).alloc (Nat.le_refl _) _, LB.made w xs.length, .start _ _⟩
 case round =>
  obtain ⟨k, L, hk, rfl, hbl, hL, hat⟩ := hrel
  have hgl := hL.lt
  have hwz := hbl.size
  by_cases hkl : k < xs.length
  ·have hkL : k < L.length := by rw [hat.len hk]; omega
   have cell0 := hL.cell k hkL
   have free0 := hL.free k
   obtain ⟨ba, oa, rfl, hba, hca⟩ := ha.rd.at_ hkl
   have c1 := (hbl.cell (p := ⟨ba, oa + k, none⟩) hba).trans (hca k hkl)
   have o1 := ha.ok.get hkl
   have hba2 : ba < wr.heap.size := by omega
   unfold lim at c1
   by_cases hk1 : k + 1 < xs.length
   ·have c2 := (hbl.cell (p := ⟨ba, oa + (k + 1), none⟩) hba).trans (hca (k + 1) hk1)
    have o2 := ha.ok.get hk1
    unfold lim at c2
    clear hca
    have hor := or32' xs[k + 1] xs[k] o2 o1
    have hs2 := shr_two xs[k] xs[k + 1] n
    have hst := hat.two hk1
    generalize (xs[k] + 4294967296 * xs[k + 1]) / 2 ^ n % 4294967296 = V at hs2 hst
    go_wp2
    go_roundw
    case rel => exact ⟨k + 1, _, by omega, by go_num, (by repeat (first | exact hbl | refine Below.drew ?_ | refine below_drewN ?_ _ | refine Below.setCell ?_ (by exact Nat.le_refl _) _ | refine Below.alloc ?_ (by simp; omega) _)), (by repeat (first | exact hL | refine LB.drew ?_ | refine LB.set_ ?_ _ _ _ rfl)), hst⟩
    case measure => simp [intOf]; omega
   ·clear hca
    have hs1 := shr_one xs[k] n
    have hst := hat.one hkl (by omega)
    generalize xs[k] / 2 ^ n % 4294967296 = V at hs1 hst
    go_wp2
    go_roundw
    case rel => exact ⟨k + 1, _, by omega, by go_num, (by repeat (first | exact hbl | refine Below.drew ?_ | refine below_drewN ?_ _ | refine Below.setCell ?_ (by exact Nat.le_refl _) _ | refine Below.alloc ?_ (by simp; omega) _)), (by repeat (first | exact hL | refine LB.drew ?_ | refine LB.set_ ?_ _ _ _ rfl)), hst⟩
    case measure => simp [intOf]; omega
  ·obtain rfl : k = xs.length := by omega
   go_wp2_with (go_at_call 89; refine Frtrim_fin hL (by rw [hat.last]; exact ok_shrL _ _) (hat.len (Nat.le_refl _)) (by omega) (val xs / 2 ^ n) (by rw [hat.last, val_shrL HP.out xs ha.ok]) hbl ?_; rintro e w1 ⟨R, cc, rfl, hr1, hr2⟩)
   go_ret
   exact ⟨R, cc, rfl, hr1, hr2⟩
set_option maxHeartbeats 2000000 in
theorem Frmultiply_any (A B : Option Addr) (c d : Nat) (xs ys : List Nat) (w : World) (ha : Mg w A c xs) (hb : Mg w B d ys) (hs : xs.length ≤ 1073741824) (ht : ys.length ≤ 1073741824) :
  Calls Tryz.prog 59 #[.slice A xs.length c, .slice B ys.length d] w (RetN w (val xs * val ys)) := by
 have hmk := make32 (xs.length + ys.length) (by omega)
 rw [show ((xs.length + ys.length : Nat) : Int) = (xs.length : Int) + (ys.length : Int) from by omega] at hmk
 go_enter Tryz.func59, Tryz.ntmps59
 go_wp2
 go_loopw [20] (fun i wr => ∃ (k : Nat) (L : List Nat), k ≤ xs.length ∧ i = .int .i64 k ∧ Below w.heap.size w wr ∧ LB wr w.heap.size L ∧ MulAt xs ys k L) (fun i _ => xs.length - (intOf i).toNat)
 case atStart => exact ⟨0, _, Nat.zero_le _, rfl, (Below.refl _ _).alloc (Nat.le_refl _) _, LB.made w (xs.length + ys.length), .start _ _⟩
 case round =>
  obtain ⟨k, L0, hk, rfl, hbl0, hL0, hat0⟩ := hrel
  obtain ⟨wo, rfl⟩ : ∃ wo : World, wo = wr := ⟨_, rfl⟩
  by_cases hkl : k < xs.length
  ·obtain ⟨ba, oa, rfl, hba, hca⟩ := ha.rd.at_ hkl
   have c1 := (hbl0.cell (p := ⟨ba, oa + k, none⟩) hba).trans (hca k hkl)
   have o1 := ha.ok.get hkl
   unfold lim at c1
   clear hca
   go_wp2
   go_loopw [8, 27] (fun cr i wr => ∃ (j q : Nat) (L : List Nat), j ≤ ys.length ∧ i = .int .i64 j ∧ cr = .int .u32 q ∧ q < 4294967296 ∧ Below w.heap.size w wr ∧ LB wr w.heap.size L ∧ MulIn xs ys k j q L) (fun _ i _ => ys.length - (intOf i).toNat)
   case atStart => exact ⟨0, 0, L0, Nat.zero_le _, rfl, rfl, by omega, hbl0, hL0, hat0.inner⟩
   case round =>
    obtain ⟨j, q, L, hj, rfl, rfl, hq, hbl, hL, hat⟩ := hrel
    clear c1 hbl0 hL0 hat0
    have hgl := hL.lt
    have hwz := hbl.size
    have hkL : k + j < L.length := by rw [hat.len hk hj]; omega
    have cell0 := hL.cell (k + j) hkL
    have free0 := hL.free (k + j)
    by_cases hjl : j < ys.length
    ·obtain ⟨bb, ob, rfl, hbb, hcb⟩ := hb.rd.at_ hjl
     have c2 := (hbl.cell (p := ⟨bb, ob + j, none⟩) hbb).trans (hcb j hjl)
     have o2 := hb.ok.get hjl
     have o3 := hat.got hjl hkL
     have hbb2 : bb < wr.heap.size := by omega
     unfold lim at c2
     clear hcb
     obtain ⟨p0, p1⟩ := prod_bd xs[k] ys[j] o1 o2
     have hmb := mul_bound o1 o2 o3 hq
     go_wp2_with (go_at_call 92; refine (Frsplit_any _ _ (by omega) (by omega)).mono ?_; rintro e w1 ⟨rfl, hb1⟩; obtain ⟨hc1, hf1⟩ := bcell hb1; have hgl1 := Nat.lt_of_lt_of_le hgl hb1.size)
     go_region
     go_wp2
     go_roundw
     case rel => exact ⟨j + 1, (xs[k] * ys[j] + L[k + j] + q) / 4294967296, L.set (k + j) ((xs[k] * ys[j] + L[k + j] + q) % 4294967296), by omega, by go_num, val_i (by rw [muladd]; omega), by omega, (by repeat (first | exact hbl | exact hbl.trans (hb1.mono hwz) | refine Below.drew ?_ | refine below_drewN ?_ _ | refine Below.setCell ?_ (by exact Nat.le_refl _) _ | refine Below.alloc ?_ (by simp; omega) _)), (by repeat (first | exact hL | exact hL.below hb1 hgl | refine LB.drew ?_ | refine LB.drewN ?_ _ | refine LB.alloc ?_ _ | refine LB.set_ ?_ _ _ _ (by rw [muladd]; omega))), hat.step hkl hjl hkL⟩
     case measure => simp [intOf]; omega
    ·obtain rfl : j = ys.length := by omega
     go_wp2
     go_roundw
     case rel => exact ⟨k + 1, L.set (k + ys.length) q, by omega, by go_num, (by repeat (first | exact hbl | refine Below.drew ?_ | refine below_drewN ?_ _ | refine Below.setCell ?_ (by exact Nat.le_refl _) _ | refine Below.alloc ?_ (by simp; omega) _)), hL.set_ _ _ _ rfl, hat.done ha.ok hb.ok hq hkl⟩
     case measure => simp [intOf]; omega
  ·obtain rfl : k = xs.length := by omega
   go_wp2_with (go_at_call 89; refine Frtrim_fin hL0 (by rw [hat0.last]; exact ok_mulL _ _ _ ha.ok hb.ok (Ok.rep _)) (hat0.len (Nat.le_refl _)) (by omega) (val xs * val ys) (by rw [hat0.last, val_mulL _ _ _ (by simp), val_rep, Nat.add_zero]) hbl0 ?_; rintro e w1 ⟨R, cc, rfl, hr1, hr2⟩)
   go_ret
   exact ⟨R, cc, rfl, hr1, hr2⟩
end Go.Proofs.YtfdmlfpldgobjaaGreatDoor
