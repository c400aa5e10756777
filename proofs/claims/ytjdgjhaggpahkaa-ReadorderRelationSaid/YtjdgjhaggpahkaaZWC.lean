/- Reading order: what the stable sort's merging does, on functions of the place. Conditions: a strict weak order. -/
import Derived.Sort.LotA
import Derived.Test.YtjdgjhaggpahkaaZRs1
import Derived.Shelf.SlSortCmp.Whole1
set_option linter.unusedVariables false
set_option linter.unusedSimpArgs false
namespace Go.Proofs.Ytjdgjhaggpahkaa
section
variable {α : Type}
def swF (f : Nat → α) (x y n : Nat) : Nat → α := fun k => if x ≤ k ∧ k < x + n then f (k - x + y) else if y ≤ k ∧ k < y + n then f (k - y + x) else f k
def rotF (f : Nat → α) (a m b : Nat) : Nat → α := fun k => if k < a ∨ b ≤ k then f k else if k < a + (b - m) then f (k + (m - a)) else f (k - (b - m))
def swpF (f : Nat → α) (i j : Nat) : Nat → α := fun k => if k = j then f i else if k = i then f j else f k
theorem swF_0 (f : Nat → α) (x y : Nat) : swF f x y 0 = f := by
 funext k
 unfold swF
 (repeat' split) <;> first | rfl | (exfalso; omega) | (congr 1; omega)
theorem swF_succ (f : Nat → α) {x y n : Nat} (h : x + n < y) : swpF (swF f x y n) (x + n) (y + n) = swF f x y (n + 1) := by
 funext k
 unfold swpF swF
 (repeat' split) <;> first | rfl | (exfalso; omega) | (congr 1; omega)
theorem rot_eq (f : Nat → α) {m i : Nat} (h : i ≤ m) : swF f (m - i) m i = rotF f (m - i) m (m + i) := by
 funext k
 unfold swF rotF
 (repeat' split) <;> first | rfl | (exfalso; omega) | (congr 1; omega)
theorem rot_gt (f : Nat → α) {m i j : Nat} (h : i ≤ m) (hj : j < i) : rotF (swF f (m - i) m j) (m - (i - j)) m (m + j) = rotF f (m - i) m (m + j) := by
 funext k
 unfold rotF swF
 (repeat' split) <;> first | rfl | (exfalso; omega) | (congr 1; omega)
theorem rot_lt (f : Nat → α) {m i j : Nat} (h : i ≤ m) (hj : i < j) : rotF (swF f (m - i) (m + j - i) i) (m - i) m (m + (j - i)) = rotF f (m - i) m (m + j) := by
 funext k
 unfold rotF swF
 (repeat' split) <;> first | rfl | (exfalso; omega) | (congr 1; omega)
theorem rot_up0 (f : Nat → α) (a : Nat) : rotF f a (a + 1) (a + 1) = f := by
 funext k
 unfold rotF
 (repeat' split) <;> first | rfl | (exfalso; omega) | (congr 1; omega)
theorem rot_up (f : Nat → α) {a k : Nat} (h : a ≤ k) : swpF (rotF f a (a + 1) (k + 1)) k (k + 1) = rotF f a (a + 1) (k + 2) := by
 funext x
 unfold swpF rotF
 (repeat' split) <;> first | rfl | (exfalso; omega) | (congr 1; omega)
theorem rot_dn0 (f : Nat → α) (m : Nat) : rotF f m m (m + 1) = f := by
 funext k
 unfold rotF
 (repeat' split) <;> first | rfl | (exfalso; omega) | (congr 1; omega)
theorem rot_dn (f : Nat → α) {k m : Nat} (h : k + 1 ≤ m) : swpF (rotF f (k + 1) m (m + 1)) (k + 1) k = rotF f k m (m + 1) := by
 funext x
 unfold swpF rotF
 (repeat' split) <;> first | rfl | (exfalso; omega) | (congr 1; omega)
/-- ascending on a ≤ i < b -/
def SrtF (lt : α → α → Bool) (a b : Nat) (f : Nat → α) : Prop := ∀ i j, a ≤ i → i < j → j < b → lt (f j) (f i) = false
variable {lt : α → α → Bool}
theorem SrtF.le {a b : Nat} {f : Nat → α} (hO : Go.Sort.SWO lt) (h : SrtF lt a b f) {i j : Nat} (h1 : a ≤ i) (h2 : i ≤ j) (h3 : j < b) : lt (f j) (f i) = false := by
 rcases Nat.lt_or_ge i j with h4 | h4
 ·exact h i j h1 h4 h3
 ·obtain rfl : i = j := by omega
  exact hO.irrefl _
theorem lt_asym (hO : Go.Sort.SWO lt) {x y : α} (h : lt x y = true) : lt y x = false := by
 cases h2 : lt y x
 ·rfl
 ·have := hO.trans _ _ _ h h2
  rw [hO.irrefl] at this; cases this
theorem srt_up (hO : Go.Sort.SWO lt) {f : Nat → α} {a b i : Nat} (hi : a + 1 ≤ i) (hb : i ≤ b) (hs : SrtF lt (a + 1) b f) (h1 : i = a + 1 ∨ lt (f (i - 1)) (f a) = true) (h2 : i = b ∨ lt (f i) (f a) = false) : SrtF lt a b (rotF f a (a + 1) i) := by
 have L : ∀ x, a + 1 ≤ x → x < i → lt (f a) (f x) = false := fun x hx1 hx2 => by
  rcases h1 with h1 | h1
  ·omega
  ·cases h : lt (f a) (f x)
   ·rfl
   ·have h3 := hO.trans _ _ _ h1 h
    rw [hs.le hO hx1 (show x ≤ i - 1 by omega) (by omega)] at h3
    cases h3
 have R : ∀ y, i ≤ y → y < b → lt (f y) (f a) = false := fun y hy1 hy2 => by
  rcases h2 with h2 | h2
  ·omega
  ·exact hO.ntrans _ _ _ (hs.le hO hi hy1 hy2) h2
 intro x y hx hxy hy
 unfold rotF
 by_cases y1 : y < a ∨ i ≤ y
 ·rw [if_pos y1]
  by_cases x1 : x < a ∨ i ≤ x
  ·rw [if_pos x1]; exact hs x y (by omega) hxy hy
  ·rw [if_neg x1]
   by_cases x2 : x < a + (i - (a + 1))
   ·rw [if_pos x2]; exact hs _ _ (by omega) (by omega) hy
   ·rw [if_neg x2, show x - (i - (a + 1)) = a by omega]; exact R y (by omega) hy
 ·rw [if_neg y1, if_neg (show ¬ (x < a ∨ i ≤ x) by omega)]
  rw [if_pos (show x < a + (i - (a + 1)) by omega)]
  by_cases y2 : y < a + (i - (a + 1))
  ·rw [if_pos y2]; exact hs _ _ (by omega) (by omega) (by omega)
  ·rw [if_neg y2, show y - (i - (a + 1)) = a by omega]; exact L _ (by omega) (by omega)
theorem srt_dn (hO : Go.Sort.SWO lt) {f : Nat → α} {a m i : Nat} (hi : a ≤ i) (hm : i ≤ m) (hs : SrtF lt a m f) (h1 : i = a ∨ lt (f m) (f (i - 1)) = false) (h2 : i = m ∨ lt (f m) (f i) = true) : SrtF lt a (m + 1) (rotF f i m (m + 1)) := by
 have L : ∀ x, a ≤ x → x < i → lt (f m) (f x) = false := fun x hx1 hx2 => by
  rcases h1 with h1 | h1
  ·omega
  ·exact hO.ntrans _ _ _ h1 (hs.le hO hx1 (show x ≤ i - 1 by omega) (by omega))
 have R : ∀ y, i ≤ y → y < m → lt (f y) (f m) = false := fun y hy1 hy2 => by
  rcases h2 with h2 | h2
  ·omega
  ·cases h : lt (f y) (f m)
   ·rfl
   ·have h3 := hO.trans _ _ _ h h2
    rw [hs.le hO hi hy1 hy2] at h3
    cases h3
 intro x y hx hxy hy
 unfold rotF
 by_cases x1 : x < i ∨ m + 1 ≤ x
 ·rw [if_pos x1]
  by_cases y1 : y < i ∨ m + 1 ≤ y
  ·rw [if_pos y1]; exact hs x y hx hxy (by omega)
  ·rw [if_neg y1]
   by_cases y2 : y < i + (m + 1 - m)
   ·rw [if_pos y2, show y + (m - i) = m by omega]; exact L x hx (by omega)
   ·rw [if_neg y2]; exact hs _ _ hx (by omega) (by omega)
 ·rw [if_neg x1, if_neg (show ¬ (y < i ∨ m + 1 ≤ y) by omega)]
  rw [if_neg (show ¬ y < i + (m + 1 - m) by omega)]
  by_cases x2 : x < i + (m + 1 - m)
  ·rw [if_pos x2, show x + (m - i) = m by omega]; exact R _ (by omega) (by omega)
  ·rw [if_neg x2]; exact hs _ _ (by omega) (by omega) (by omega)
theorem rot_o (f : Nat → α) {a m b : Nat} (k : Nat) (h : k < a ∨ b ≤ k) : rotF f a m b k = f k := if_pos h
theorem rot_l (f : Nat → α) {a m b : Nat} (k : Nat) (h1 : ¬ (k < a ∨ b ≤ k)) (h2 : k < a + (b - m)) : rotF f a m b k = f (k + (m - a)) := by unfold rotF; rw [if_neg h1, if_pos h2]
theorem rot_r (f : Nat → α) {a m b : Nat} (k : Nat) (h1 : ¬ (k < a ∨ b ≤ k)) (h2 : ¬ k < a + (b - m)) : rotF f a m b k = f (k - (b - m)) := by unfold rotF; rw [if_neg h1, if_neg h2]
/-- the merging's step: where to cut, what the rotation leaves -/
theorem mrg_cut (hO : Go.Sort.SWO lt) {f : Nat → α} {a m b s e mid : Nat} (has : a ≤ s) (hsm : s ≤ m) (hme : m ≤ e) (heb : e ≤ b) (hmid : s + (e - m) = mid) (hU : SrtF lt a m f) (hV : SrtF lt m b f)
  (h1 : s = a ∨ e = b ∨ lt (f e) (f (s - 1)) = false) (h2 : s = m ∨ e = m ∨ lt (f (e - 1)) (f s) = true) :
  SrtF lt a s (rotF f s m e) ∧ SrtF lt s mid (rotF f s m e) ∧ SrtF lt mid e (rotF f s m e) ∧ SrtF lt e b (rotF f s m e) ∧
   ∀ x y, a ≤ x → x < mid → mid ≤ y → y < b → lt (rotF f s m e y) (rotF f s m e x) = false := by
 have A : ∀ x y, a ≤ x → x < s → e ≤ y → y < b → lt (f y) (f x) = false := fun x y hx1 hx2 hy1 hy2 => by
  rcases h1 with h | h | h
  ·omega
  ·omega
  ·exact hO.ntrans _ _ _ (hV.le hO (show m ≤ e by omega) hy1 hy2) (hO.ntrans _ _ _ h (hU.le hO hx1 (show x ≤ s - 1 by omega) (by omega)))
 have B : ∀ x y, m ≤ x → x < e → s ≤ y → y < m → lt (f y) (f x) = false := fun x y hx1 hx2 hy1 hy2 => by
  rcases h2 with h | h | h
  ·omega
  ·omega
  ·cases h3 : lt (f y) (f x)
   ·rfl
   ·have h4 := hV.le hO hx1 (show x ≤ e - 1 by omega) (by omega)
    have h5 := hU.le hO has hy1 hy2
    have h6 := lt_asym hO h
    have h7 := lt_asym hO h3
    -- f x ≤ f (e-1) < f s ≤ f y < f x
    have h8 : lt (f (e - 1)) (f x) = true := by
     cases h9 : lt (f (e - 1)) (f y)
     ·have := hO.ntrans _ _ _ h9 h5
      rw [h] at this; cases this
     ·exact hO.trans _ _ _ h9 h3
    rw [h4] at h8; cases h8
 refine ⟨?_, ?_, ?_, ?_, ?_⟩
 ·intro i j hi hij hj
  rw [rot_o f i (by omega), rot_o f j (by omega)]
  exact hU i j hi hij (by omega)
 ·intro i j hi hij hj
  rw [rot_l f i (by omega) (by omega), rot_l f j (by omega) (by omega)]
  exact hV _ _ (by omega) (by omega) (by omega)
 ·intro i j hi hij hj
  rw [rot_r f i (by omega) (by omega), rot_r f j (by omega) (by omega)]
  exact hU _ _ (by omega) (by omega) (by omega)
 ·intro i j hi hij hj
  rw [rot_o f i (by omega), rot_o f j (by omega)]
  exact hV i j (by omega) hij hj
 ·intro x y hx1 hx2 hy1 hy2
  by_cases x1 : x < s
  ·rw [rot_o f x (by omega)]
   by_cases y1 : e ≤ y
   ·rw [rot_o f y (by omega)]; exact A x y hx1 x1 y1 hy2
   ·rw [rot_r f y (by omega) (by omega)]
    exact hU _ _ hx1 (by omega) (by omega)
  ·rw [rot_l f x (by omega) (by omega)]
   by_cases y1 : e ≤ y
   ·rw [rot_o f y (by omega)]; exact hV _ _ (by omega) (by omega) hy2
   ·rw [rot_r f y (by omega) (by omega)]
    exact B _ _ (by omega) (by omega) (by omega) (by omega)
end
end Go.Proofs.Ytjdgjhaggpahkaa
/- Reading order: the stable sort's exchanges and rotations. Conditions: none beyond the sizes. -/
namespace Go.Proofs.Ytjdgjhaggpahkaa
open Go.RowKit Go.Deep Go.Shelf Go.Lib Go.Sort
theorem swp_F {α : Type} [Inhabited α] {d : Array α} {f : Nat → α} {i j : Nat} (h : ∀ k, d[k]! = f k) (hi : i < d.size) (hj : j < d.size) (k : Nat) : (swp d i j)[k]! = swpF f i j k := by
 unfold swpF
 by_cases h1 : k = j
 ·subst h1; rw [swp_right d i k hj, if_pos rfl, h]
 ·rw [if_neg h1]
  by_cases h2 : k = i
  ·subst h2; rw [swp_left d k j hi h1, if_pos rfl, h]
  ·rw [swp_other d i j k h2 h1, if_neg h2, h]
/-- what a part of the sort leaves: places permuted, contents as told -/
structure Out {α : Type} [Inhabited α] (enc : α → Value) (w0 : World) (blk off : Nat) (d : Array α) (a b : Nat) (f : Nat → α) (d' : Array α) (w' : World) : Prop where
 sz : d'.size = d.size
 pm : PermIn a b d d'
 at_ : ∀ k, d'[k]! = f k
 sw : SW enc w0 blk off d' w'
section
variable {α : Type} [Inhabited α] (enc : α → Value) (blk off cap : Nat) (d0 : Array α) (w0 : World) (fv : Value)
set_option maxRecDepth 100000 in
set_option maxHeartbeats 8000000 in
theorem swapRange_s (R : Row1 enc w0 blk off d0) (d : Array α) (w : World) (a b n : Nat) (hs : d.size = d0.size) (S : SW enc w0 blk off d w) (hab : a + n ≤ b) (hb : b + n ≤ d.size) (hsz : d0.size < 4611686018427387904) :
  Calls Try.prog 68 #[.slice (some ⟨blk, off, none⟩) d0.size cap, .int .i64 (a : Int), .int .i64 (b : Int), .int .i64 (n : Int), fv] w fun e w' => e = .returned (.tuple #[]) ∧ ∃ d', Out enc w0 blk off d a (b + n) (swF (fun k => d[k]!) a b n) d' w' := by
 have S0 := hid S
 clear S
 obtain ⟨N, hN⟩ : ∃ N, d0.size = N := ⟨_, rfl⟩
 have mixed : Try.prog.follows .mixedOrders = true := by kernel_rfl
 have hst := R.hO.store Try.prog
 have hcl0 := R.hO.cells
 simp only [Value.cells] at hcl0
 rw [hN]
 go_enter Try.func68, Try.ntmps68
 go_wp2
 go_loopw [10] (fun s10 wr => ∃ (i : Nat) (dk : Array α), s10 = .int .i64 (i : Int) ∧ i ≤ n ∧ dk.size = d.size ∧ Hid (PermIn a (b + n) d dk) ∧ Hid (∀ k, dk[k]! = swF (fun k => d[k]!) a b i k) ∧ Hid (SW enc w0 blk off dk wr)) (fun s10 _ => n - (intOf s10).toNat)
 case atStart => exact ⟨0, d, rfl, by omega, rfl, permIn_refl _ _ _, fun k => by rw [swF_0], S0⟩
 case round =>
  clear S0
  obtain ⟨i, dk, rfl, hi, hk, hP, hF, SK⟩ := hrel
  by_cases hin : i < n
  ·have hii : (i : Int) < (n : Int) := by omega
   obtain ⟨p, hp⟩ : ∃ p, p = a + i := ⟨_, rfl⟩
   obtain ⟨q, hq⟩ : ∃ q, q = b + i := ⟨_, rfl⟩
   have rp : IntKind.i64.wrap ((a : Int) + (i : Int)) = (p : Int) := by rw [IntKind.wrap_i64]; omega
   have rq : IntKind.i64.wrap ((b : Int) + (i : Int)) = (q : Int) := by rw [IntKind.wrap_i64]; omega
   have bp : (p : Int) < (N : Int) := by omega
   have bq : (q : Int) < (N : Int) := by omega
   have hP2 := hid (permIn_trans _ _ _ a (b + n) hP.out (swp_permIn dk a (b + n) p q (by omega) (by omega) (by omega) (by omega) (by omega)))
   have hF2 := hid fun k => (swp_F hF.out (i := p) (j := q) (by omega) (by omega) k).trans (by rw [hp, hq, swF_succ _ (by omega)])
   have hk2 : (swp dk p q).size = d.size := by rw [size_swp]; exact hk
   have hpd : p < dk.size := by omega
   have hqd : q < dk.size := by omega
   replace hp := hid hp
   replace hq := hid hq
   clear hP hF
   go_upto_region 3 with fail
   obtain ⟨x_, hx_⟩ : ∃ x, x = dk[p]! := ⟨_, rfl⟩
   obtain ⟨y_, hy_⟩ : ∃ x, x = dk[q]! := ⟨_, rfl⟩
   have S3 : Hid (SW enc w0 blk off (Go.Sort.swp dk p q) ((wr.setCell ⟨blk, off + p, none⟩ (enc y_)).setCell ⟨blk, off + q, none⟩ (enc x_)).drew) := by rw [hx_, hy_]; exact SK.out.swapped R p q (by omega) (by omega)
   have ca_ := SK.out.c1 R (by omega) p (by omega)
   have cb_ := SK.out.c1 R (by omega) q (by omega)
   have fa_ := SK.out.f1 R (by omega) p (by omega)
   have fb_ := SK.out.f1 R (by omega) q (by omega)
   obtain ⟨u_, cc_⟩ := SK.out.c2 R (by omega) p q (by omega) (by omega) (enc y_)
   rw [← hx_] at ca_
   rw [← hy_] at cb_
   clear hx_ hy_ SK
   go_wp2_with fail
   go_big_region_o
   clear ca_ cb_ cc_ fa_ fb_
   generalize ((wr.setCell ⟨blk, off + p, none⟩ (enc y_)).setCell ⟨blk, off + q, none⟩ (enc x_)).drew = w3 at S3 ⊢
   go_wp2
   go_roundw
   case rel => exact ⟨i + 1, swp dk p q, by go_num, by omega, hk2, hP2, hF2, S3⟩
   case measure => simp [intOf]; omega
  ·obtain rfl : i = n := by omega
   have hii : ¬ (i : Int) < (i : Int) := by omega
   go_wp2
   go_end0
   exact ⟨rfl, dk, hk, hP.out, hF.out, SK.out⟩
set_option maxRecDepth 100000 in
set_option maxHeartbeats 8000000 in
theorem rotate_s (R : Row1 enc w0 blk off d0) (d : Array α) (w : World) (a m b : Nat) (hs : d.size = d0.size) (S : SW enc w0 blk off d w) (ham : a < m) (hmb : m < b) (hb : b ≤ d.size) (hsz : d0.size < 4611686018427387904) :
  Calls Try.prog 62 #[.slice (some ⟨blk, off, none⟩) d0.size cap, .int .i64 (a : Int), .int .i64 (m : Int), .int .i64 (b : Int), fv] w fun e w' => e = .returned (.tuple #[]) ∧ ∃ d', Out enc w0 blk off d a b (rotF (fun k => d[k]!) a m b) d' w' := by
 have S0 := hid S
 clear S
 have HS := hid fun (dk : Array α) (W : World) (x y n : Nat) (hk : dk.size = d0.size) (SK : SW enc w0 blk off dk W) (h1 : x + n ≤ y) (h2 : y + n ≤ dk.size) => swapRange_s enc blk off cap d0 w0 fv R dk W x y n hk SK h1 h2 hsz
 obtain ⟨N, hN⟩ : ∃ N, d0.size = N := ⟨_, rfl⟩
 have e1 : IntKind.i64.wrap ((m : Int) - (a : Int)) = ((m - a : Nat) : Int) := by rw [IntKind.wrap_i64]; omega
 have e2 : IntKind.i64.wrap ((b : Int) - (m : Int)) = ((b - m : Nat) : Int) := by rw [IntKind.wrap_i64]; omega
 have f1 : m - (m - a) = a := by omega
 have f2 : m + (b - m) = b := by omega
 have F0 := hid (show ∀ k, rotF (fun k => d[k]!) (m - (m - a)) m (m + (b - m)) k = rotF (fun k => d[k]!) a m b k from fun k => by rw [f1, f2])
 clear f1 f2
 rw [hN] at HS hs ⊢
 go_enter Try.func62, Try.ntmps62
 go_wp2
 go_loopw [10, 11] (fun s10 s11 wr => ∃ (i j : Nat) (dk : Array α), s10 = .int .i64 (i : Int) ∧ s11 = .int .i64 (j : Int) ∧ 0 < i ∧ 0 < j ∧ i ≤ m - a ∧ j ≤ b - m ∧ dk.size = N ∧ Hid (PermIn a b d dk) ∧ Hid (∀ k, rotF (fun k => dk[k]!) (m - i) m (m + j) k = rotF (fun k => d[k]!) a m b k) ∧ Hid (SW enc w0 blk off dk wr)) (fun s10 s11 _ => (intOf s10).toNat + (intOf s11).toNat)
 case atStart => exact ⟨m - a, b - m, d, rfl, rfl, by omega, by omega, Nat.le_refl _, Nat.le_refl _, hs, permIn_refl _ _ _, F0, S0⟩
 case round =>
  clear S0 F0 e1 e2
  obtain ⟨i, j, dk, rfl, rfl, hi0, hj0, hi, hj, hk, hP, hF, SK⟩ := hrel
  have e1 : IntKind.i64.wrap ((m : Int) - (i : Int)) = ((m - i : Nat) : Int) := by rw [IntKind.wrap_i64]; omega
  by_cases hij : i = j
  ·subst hij
   have hne : ((i : Int) == (i : Int)) = true := by simp
   have hC := hid (HS.out dk wr (m - i) m i hk SK.out (by omega) (by omega))
   have hfin := hid fun (d' : Array α) (w' : World) (h : Out enc w0 blk off dk (m - i) (m + i) (swF (fun k => dk[k]!) (m - i) m i) d' w') => (show Out enc w0 blk off d a b (rotF (fun k => d[k]!) a m b) d' w' from
    ⟨by rw [h.sz]; omega, permIn_trans _ _ _ a b hP.out (permIn_mono _ _ (m - i) (m + i) a b (by omega) (by omega) (by omega) h.pm), fun k => by rw [h.at_, rot_eq _ (by omega)]; exact hF.out k, h.sw⟩)
   clear HS hP hF SK
   go_wp2_with fail
   refine hC.out.mono ?_
   rintro e w2 ⟨rfl, d', ho⟩
   have hres := hid (hfin.out d' w2 ho)
   clear hC hfin ho
   go_wp2
   go_end0
   exact ⟨rfl, d', hres.out⟩
  ·have hne : ((i : Int) == (j : Int)) = false := beq_eq_false_iff_ne.2 (by omega)
   have hne2 : ((i : Int) != (j : Int)) = true := by simp [bne, hne]
   by_cases hgt : j < i
   ·have hgi : (j : Int) < (i : Int) := by omega
    have e3 : IntKind.i64.wrap ((i : Int) - (j : Int)) = ((i - j : Nat) : Int) := by rw [IntKind.wrap_i64]; omega
    have hC := hid (HS.out dk wr (m - i) m j hk SK.out (by omega) (by omega))
    have hfin := hid fun (d' : Array α) (w' : World) (h : Out enc w0 blk off dk (m - i) (m + j) (swF (fun k => dk[k]!) (m - i) m j) d' w') => (show d'.size = N ∧ PermIn a b d d' ∧ (∀ k, rotF (fun k => d'[k]!) (m - (i - j)) m (m + j) k = rotF (fun k => d[k]!) a m b k) ∧ SW enc w0 blk off d' w' from
     ⟨by rw [h.sz]; exact hk, permIn_trans _ _ _ a b hP.out (permIn_mono _ _ (m - i) (m + j) a b (by omega) (by omega) (by omega) h.pm), fun k => by rw [show (fun k => d'[k]!) = _ from funext h.at_, rot_gt _ (by omega) hgt]; exact hF.out k, h.sw⟩)
    clear HS hP hF SK
    go_wp2_with fail
    refine hC.out.mono ?_
    rintro e w2 ⟨rfl, d', ho⟩
    obtain ⟨r1, r2, r3, r4⟩ := hfin.out d' w2 ho
    replace r2 := hid r2
    replace r3 := hid r3
    replace r4 := hid r4
    clear hC hfin ho
    go_wp2
    go_roundw
    case rel => exact ⟨i - j, j, d', rfl, rfl, by omega, hj0, by omega, hj, r1, r2, r3, r4⟩
    case measure => simp [intOf]; omega
   ·have hgi : ¬ (j : Int) < (i : Int) := by omega
    have hlt : i < j := by omega
    have e3 : IntKind.i64.wrap ((j : Int) - (i : Int)) = ((j - i : Nat) : Int) := by rw [IntKind.wrap_i64]; omega
    have e4 : IntKind.i64.wrap ((m : Int) + (j : Int)) = ((m + j : Nat) : Int) := by rw [IntKind.wrap_i64]; omega
    obtain ⟨mj, hmj⟩ : ∃ z, m + j = z := ⟨_, rfl⟩
    rw [hmj] at e4
    have e5 : IntKind.i64.wrap ((mj : Int) - (i : Int)) = ((mj - i : Nat) : Int) := by rw [IntKind.wrap_i64]; omega
    have hC := hid (HS.out dk wr (m - i) (mj - i) i hk SK.out (by omega) (by omega))
    have hfin := hid fun (d' : Array α) (w' : World) (h : Out enc w0 blk off dk (m - i) (mj - i + i) (swF (fun k => dk[k]!) (m - i) (mj - i) i) d' w') => (show d'.size = N ∧ PermIn a b d d' ∧ (∀ k, rotF (fun k => d'[k]!) (m - i) m (m + (j - i)) k = rotF (fun k => d[k]!) a m b k) ∧ SW enc w0 blk off d' w' from
     ⟨by rw [h.sz]; exact hk, permIn_trans _ _ _ a b hP.out (permIn_mono _ _ (m - i) (mj - i + i) a b (by omega) (by omega) (by omega) h.pm), fun k => by rw [show (fun k => d'[k]!) = _ from funext h.at_, ← hmj, rot_lt _ (by omega) hlt]; exact hF.out k, h.sw⟩)
    replace hmj := hid hmj
    clear HS hP hF SK
    go_wp2_with fail
    refine hC.out.mono ?_
    rintro e w2 ⟨rfl, d', ho⟩
    obtain ⟨r1, r2, r3, r4⟩ := hfin.out d' w2 ho
    replace r2 := hid r2
    replace r3 := hid r3
    replace r4 := hid r4
    clear hC hfin ho
    go_wp2
    go_roundw
    case rel => exact ⟨i, j - i, d', rfl, rfl, hi0, by omega, hi, by omega, r1, r2, r3, r4⟩
    case measure => simp [intOf]; omega
end
end Go.Proofs.Ytjdgjhaggpahkaa
