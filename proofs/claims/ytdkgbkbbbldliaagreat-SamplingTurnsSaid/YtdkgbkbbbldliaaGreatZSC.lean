/- Sampling: sizes of tables, valid bitmaps, floors of quotients. Conditions: none. -/
import Derived.Test.YtdkgbkbbbldliaaGreatZSA
import Derived.Test.YtdkgbkbbbldliaaGreatZYE
import Derived.Test.YtdkgbkbbbldliaaGreatZYI
import Derived.Test.YtdkgbkbbbldliaaGreatZYM2
import Derived.Test.YtdkgbkbbbldliaaGreatZYP
set_option linter.unusedVariables false
set_option linter.unusedSimpArgs false
namespace Go.Proofs.YtdkgbkbbbldliaaGreat
open Go.RowKit Big
set_option maxHeartbeats 1000000 in
theorem Z4 (c r : Int) (w : World) : Calls Tryz.prog 32 #[.int .i64 c, .int .i64 r] w (RetB w (J9 c r)) := by
 have hs := hid (Jj (c := c) (r := r))
 generalize J9 c r = t at *
 have hn : Hid (¬ (1 ≤ c ∧ c ≤ 4096 ∧ 1 ≤ r ∧ r ≤ 4096 ∧ c * r ≤ 4194304) → t = false) := fun h => Bool.eq_false_iff.2 fun e => h (hs.out.1 e)
 by_cases h1 : 1 ≤ c
 ·by_cases h2 : c ≤ 4096
  ·by_cases h3 : 1 ≤ r
   ·by_cases h4 : r ≤ 4096
    ·have hp : 0 ≤ c * r ∧ c * r ≤ 4096 * 4096 := ⟨Int.mul_nonneg (by omega) (by omega), Int.mul_le_mul h2 h4 (by omega) (by omega)⟩
     have hw : IntKind.i64.wrap (c * r) = c * r := by rw [IntKind.wrap_i64]; omega
     clear hp
     by_cases h5 : c * r ≤ 4194304
     ·obtain rfl := hs.out.2 ⟨h1, h2, h3, h4, h5⟩
      clear hs hn
      go_enter Tryz.func32, Tryz.ntmps32
      go_wp2
      go_ret
      exact ⟨rfl, Below.refl _ _⟩
     ·obtain rfl := hn.out fun h => h5 h.2.2.2.2
      clear hs hn
      go_enter Tryz.func32, Tryz.ntmps32
      go_wp2
      go_ret
      exact ⟨rfl, Below.refl _ _⟩
    ·obtain rfl := hn.out fun h => h4 h.2.2.2.1
     clear hs hn
     go_enter Tryz.func32, Tryz.ntmps32
     go_wp2
     go_ret
     exact ⟨rfl, Below.refl _ _⟩
   ·obtain rfl := hn.out fun h => h3 h.2.2.1
    clear hs hn
    go_enter Tryz.func32, Tryz.ntmps32
    go_wp2
    go_ret
    exact ⟨rfl, Below.refl _ _⟩
  ·obtain rfl := hn.out fun h => h2 h.2.1
   clear hs hn
   go_enter Tryz.func32, Tryz.ntmps32
   go_wp2
   go_ret
   exact ⟨rfl, Below.refl _ _⟩
 ·obtain rfl := hn.out fun h => h1 h.1
  clear hs hn
  go_enter Tryz.func32, Tryz.ntmps32
  go_wp2
  go_ret
  exact ⟨rfl, Below.refl _ _⟩
set_option maxHeartbeats 1000000 in
theorem RPossible (c r : Int) (w : World) : Calls Tryz.prog 56 #[.int .i64 c, .int .i64 r] w (RetB w (J9 c r)) := by
 have hs := hid (Jj (c := c) (r := r))
 generalize J9 c r = t at *
 have hn : Hid (¬ (1 ≤ c ∧ c ≤ 4096 ∧ 1 ≤ r ∧ r ≤ 4096 ∧ c * r ≤ 4194304) → t = false) := fun h => Bool.eq_false_iff.2 fun e => h (hs.out.1 e)
 by_cases h1 : 1 ≤ c
 ·by_cases h2 : c ≤ 4096
  ·by_cases h3 : 1 ≤ r
   ·by_cases h4 : r ≤ 4096
    ·have hp : 0 ≤ c * r ∧ c * r ≤ 4096 * 4096 := ⟨Int.mul_nonneg (by omega) (by omega), Int.mul_le_mul h2 h4 (by omega) (by omega)⟩
     have hw : IntKind.i64.wrap (c * r) = c * r := by rw [IntKind.wrap_i64]; omega
     clear hp
     by_cases h5 : c * r ≤ 4194304
     ·obtain rfl := hs.out.2 ⟨h1, h2, h3, h4, h5⟩
      clear hs hn
      go_enter Tryz.func56, Tryz.ntmps56
      go_wp2
      go_ret
      exact ⟨rfl, Below.refl _ _⟩
     ·obtain rfl := hn.out fun h => h5 h.2.2.2.2
      clear hs hn
      go_enter Tryz.func56, Tryz.ntmps56
      go_wp2
      go_ret
      exact ⟨rfl, Below.refl _ _⟩
    ·obtain rfl := hn.out fun h => h4 h.2.2.2.1
     clear hs hn
     go_enter Tryz.func56, Tryz.ntmps56
     go_wp2
     go_ret
     exact ⟨rfl, Below.refl _ _⟩
   ·obtain rfl := hn.out fun h => h3 h.2.2.1
    clear hs hn
    go_enter Tryz.func56, Tryz.ntmps56
    go_wp2
    go_ret
    exact ⟨rfl, Below.refl _ _⟩
  ·obtain rfl := hn.out fun h => h2 h.2.1
   clear hs hn
   go_enter Tryz.func56, Tryz.ntmps56
   go_wp2
   go_ret
   exact ⟨rfl, Below.refl _ _⟩
 ·obtain rfl := hn.out fun h => h1 h.1
  clear hs hn
  go_enter Tryz.func56, Tryz.ntmps56
  go_wp2
  go_ret
  exact ⟨rfl, Below.refl _ _⟩
set_option maxHeartbeats 1000000 in
theorem S1fits (c r : Int) (w : World) : Calls Tryz.prog 50 #[.int .i64 c, .int .i64 r] w (RetB w (J9 c r)) := by
 have hs := hid (Jj (c := c) (r := r))
 generalize J9 c r = t at *
 have hn : Hid (¬ (1 ≤ c ∧ c ≤ 4096 ∧ 1 ≤ r ∧ r ≤ 4096 ∧ c * r ≤ 4194304) → t = false) := fun h => Bool.eq_false_iff.2 fun e => h (hs.out.1 e)
 by_cases h1 : 1 ≤ c
 ·by_cases h2 : c ≤ 4096
  ·by_cases h3 : 1 ≤ r
   ·by_cases h4 : r ≤ 4096
    ·have hp : 0 ≤ c * r ∧ c * r ≤ 4096 * 4096 := ⟨Int.mul_nonneg (by omega) (by omega), Int.mul_le_mul h2 h4 (by omega) (by omega)⟩
     have hw : IntKind.i64.wrap (c * r) = c * r := by rw [IntKind.wrap_i64]; omega
     clear hp
     by_cases h5 : c * r ≤ 4194304
     ·obtain rfl := hs.out.2 ⟨h1, h2, h3, h4, h5⟩
      clear hs hn
      go_enter Tryz.func50, Tryz.ntmps50
      go_wp2
      go_ret
      exact ⟨rfl, Below.refl _ _⟩
     ·obtain rfl := hn.out fun h => h5 h.2.2.2.2
      clear hs hn
      go_enter Tryz.func50, Tryz.ntmps50
      go_wp2
      go_ret
      exact ⟨rfl, Below.refl _ _⟩
    ·obtain rfl := hn.out fun h => h4 h.2.2.2.1
     clear hs hn
     go_enter Tryz.func50, Tryz.ntmps50
     go_wp2
     go_ret
     exact ⟨rfl, Below.refl _ _⟩
   ·obtain rfl := hn.out fun h => h3 h.2.2.1
    clear hs hn
    go_enter Tryz.func50, Tryz.ntmps50
    go_wp2
    go_ret
    exact ⟨rfl, Below.refl _ _⟩
  ·obtain rfl := hn.out fun h => h2 h.2.1
   clear hs hn
   go_enter Tryz.func50, Tryz.ntmps50
   go_wp2
   go_ret
   exact ⟨rfl, Below.refl _ _⟩
 ·obtain rfl := hn.out fun h => h1 h.1
  clear hs hn
  go_enter Tryz.func50, Tryz.ntmps50
  go_wp2
  go_ret
  exact ⟨rfl, Below.refl _ _⟩
def ckE (m : Bm) : Int := if bmB m then 0 else 1
theorem bm_size {m : Bm} (h : J9 m.w m.h = false) : bmB m = false := by unfold bmB; rw [h]; rfl
theorem bm_len {m : Bm} (h : J9 m.w m.h = true) : bmB m = decide ((m.d.length : Int) = m.w * m.h) := by unfold bmB; rw [h]; rfl
theorem Y8 {c r : Int} (h : J9 c r = true) : IntKind.i64.wrap (c * r) = c * r := by
 obtain ⟨a, b, d, e, f⟩ := Jj.1 h
 have : 0 ≤ c * r := Int.mul_nonneg (by omega) (by omega)
 rw [IntKind.wrap_i64]; omega
set_option maxHeartbeats 1000000 in
theorem RCheck_g (m : Bm) (A : Option Addr) (c : Nat) (w : World) : Calls Tryz.prog 30 #[.agg #[.int .i64 m.w, .int .i64 m.h, .slice A m.d.length c]] w (RetI w (ckE m)) := by
 have HP := hid fun (W : World) => RPossible m.w m.h W
 go_enter Tryz.func30, Tryz.ntmps30
 go_upto_region 1 with fail
 refine Kw (P := fun u => Code.wp _ _ _ _ u) (c := [.int .i64 m.w, .int .i64 m.h, .slice A m.d.length c]) ?_
 intro u HB r0 zn0 hsz
 clear hsz zn0
 have c0 : (u).cell? ⟨w.heap.size, 0, none⟩ = some (.int .i64 m.w) := r0 0 _ rfl
 have c1 : (u).cell? ⟨w.heap.size, 1, none⟩ = some (.int .i64 m.h) := r0 1 _ rfl
 have c2 : (u).cell? ⟨w.heap.size, 2, none⟩ = some (.slice A m.d.length c) := r0 2 _ rfl
 clear r0
 go_wp2_with fail
 refine (HP.out u).mono ?_
 rintro e v ⟨rfl, hv⟩
 have c0 := Ka hv c0
 have c1 := Ka hv c1
 have c2 := Ka hv c2
 have HB := Kb HB hv
 cases hs : J9 m.w m.h
 ·have hb := hid (bm_size hs)
  clear HP hs hv
  go_wp2
  go_ret
  exact ⟨by first | (simp only [ckE, hb.out]; rfl) | (simp [hb.out, h]; done), HB⟩
 ·obtain ⟨p, hp⟩ : ∃ p, m.w * m.h = p := ⟨_, rfl⟩
  have hw : IntKind.i64.wrap (m.w * m.h) = p := by rw [Y8 hs, hp]
  have hl := hid (bm_len hs)
  rw [hp] at hl
  clear HP hs hv hp
  generalize m.d.length = n at *
  by_cases h : (n : Int) = p
  ·subst h
   have hb : Hid (bmB m = true) := by unfold Hid; rw [hl.out]; simp
   clear hl
   go_wp2
   go_ret
   exact ⟨by first | (simp only [ckE, hb.out]; rfl) | (simp [hb.out, h]; done), HB⟩
  ·have hb : Hid (bmB m = false) := by unfold Hid; rw [hl.out]; simp [h]
   have h' : ¬ p = (n : Int) := fun e => h e.symm
   clear hl
   go_wp2
   go_ret
   exact ⟨by first | (simp only [ckE, hb.out]; rfl) | (simp [hb.out, h]; done), HB⟩
set_option maxHeartbeats 1000000 in
theorem D6 (m : Bm) (A : Option Addr) (c : Nat) (w : World) : Calls Tryz.prog 48 #[.agg #[.int .i64 m.w, .int .i64 m.h, .slice A m.d.length c]] w (RetB w (bmB m)) := by
 have HP := hid fun (W : World) => S1fits m.w m.h W
 go_enter Tryz.func48, Tryz.ntmps48
 go_upto_region 1 with fail
 refine Kw (P := fun u => Code.wp _ _ _ _ u) (c := [.int .i64 m.w, .int .i64 m.h, .slice A m.d.length c]) ?_
 intro u HB r0 zn0 hsz
 clear hsz zn0
 have c0 : (u).cell? ⟨w.heap.size, 0, none⟩ = some (.int .i64 m.w) := r0 0 _ rfl
 have c1 : (u).cell? ⟨w.heap.size, 1, none⟩ = some (.int .i64 m.h) := r0 1 _ rfl
 have c2 : (u).cell? ⟨w.heap.size, 2, none⟩ = some (.slice A m.d.length c) := r0 2 _ rfl
 clear r0
 go_wp2_with fail
 refine (HP.out u).mono ?_
 rintro e v ⟨rfl, hv⟩
 have c0 := Ka hv c0
 have c1 := Ka hv c1
 have c2 := Ka hv c2
 have HB := Kb HB hv
 cases hs : J9 m.w m.h
 ·have hb := hid (bm_size hs)
  clear HP hs hv
  go_wp2
  go_ret
  exact ⟨by first | (simp only [ckE, hb.out]; rfl) | (simp [hb.out, h]; done), HB⟩
 ·obtain ⟨p, hp⟩ : ∃ p, m.w * m.h = p := ⟨_, rfl⟩
  have hw : IntKind.i64.wrap (m.w * m.h) = p := by rw [Y8 hs, hp]
  have hl := hid (bm_len hs)
  rw [hp] at hl
  clear HP hs hv hp
  generalize m.d.length = n at *
  by_cases h : (n : Int) = p
  ·subst h
   have hb : Hid (bmB m = true) := by unfold Hid; rw [hl.out]; simp
   clear hl
   go_wp2
   go_ret
   exact ⟨by first | (simp only [ckE, hb.out]; rfl) | (simp [hb.out, h]; done), HB⟩
  ·have hb : Hid (bmB m = false) := by unfold Hid; rw [hl.out]; simp [h]
   have h' : ¬ p = (n : Int) := fun e => h e.symm
   clear hl
   go_wp2
   go_ret
   exact ⟨by first | (simp only [ckE, hb.out]; rfl) | (simp [hb.out, h]; done), HB⟩
theorem U6 (m : Bm) (A : Option Addr) (c : Nat) (w : World) : Calls Tryz.prog 23 #[.agg #[.int .i64 m.w, .int .i64 m.h, .slice A m.d.length c]] w (RetI w (ckE m)) := by
 have HP := hid fun (W : World) => D6 m A c W
 have hk : Hid (ckE m = if bmB m then 0 else 1) := rfl
 generalize ckE m = k at *
 generalize bmB m = t at *
 go_enter Tryz.func23, Tryz.ntmps23
 go_upto_region 1 with fail
 refine Kw (P := fun u => Code.wp _ _ _ _ u) (c := [.int .i64 m.w, .int .i64 m.h, .slice A m.d.length c]) ?_
 intro u HB r0 zn0 hsz
 clear hsz zn0
 have c0 : (u).cell? ⟨w.heap.size, 0, none⟩ = some (.int .i64 m.w) := r0 0 _ rfl
 have c1 : (u).cell? ⟨w.heap.size, 1, none⟩ = some (.int .i64 m.h) := r0 1 _ rfl
 have c2 : (u).cell? ⟨w.heap.size, 2, none⟩ = some (.slice A m.d.length c) := r0 2 _ rfl
 clear r0
 generalize m.d.length = n at *
 go_wp2_with fail
 refine (HP.out u).mono ?_
 rintro e v ⟨rfl, hv⟩
 have HB := Kb HB hv
 clear HP hv c0 c1 c2
 cases t
 ·go_wp2
  go_ret
  exact ⟨by rw [hk.out]; rfl, HB⟩
 ·go_wp2
  go_ret
  exact ⟨by rw [hk.out]; rfl, HB⟩
theorem Yy (c r : Int) (w : World) : Calls Tryz.prog 37 #[.int .i64 c, .int .i64 r] w (RetI w (if J9 c r then 0 else 23)) := by
 have hs := hid (Jj (c := c) (r := r))
 obtain ⟨k, hk⟩ : ∃ k : Int, (if J9 c r then 0 else 23) = k := ⟨_, rfl⟩
 rw [hk]
 have hk := hid hk
 generalize J9 c r = t at *
 have hn : Hid (¬ (1 ≤ c ∧ c ≤ 4096 ∧ 1 ≤ r ∧ r ≤ 4096 ∧ c * r ≤ 4194304) → t = false) := fun h => Bool.eq_false_iff.2 fun e => h (hs.out.1 e)
 by_cases h1 : c < 1
 ·obtain rfl := hn.out fun h => by omega
  obtain rfl := hk.out
  clear hs hn hk
  go_enter Tryz.func37, Tryz.ntmps37
  go_wp2
  go_ret
  exact ⟨rfl, Below.refl _ _⟩
 ·by_cases h2 : 4096 < c
  ·obtain rfl := hn.out fun h => by omega
   obtain rfl := hk.out
   clear hs hn hk
   go_enter Tryz.func37, Tryz.ntmps37
   go_wp2
   go_ret
   exact ⟨rfl, Below.refl _ _⟩
  ·by_cases h3 : r < 1
   ·obtain rfl := hn.out fun h => by omega
    obtain rfl := hk.out
    clear hs hn hk
    go_enter Tryz.func37, Tryz.ntmps37
    go_wp2
    go_ret
    exact ⟨rfl, Below.refl _ _⟩
   ·by_cases h4 : 4096 < r
    ·obtain rfl := hn.out fun h => by omega
     obtain rfl := hk.out
     clear hs hn hk
     go_enter Tryz.func37, Tryz.ntmps37
     go_wp2
     go_ret
     exact ⟨rfl, Below.refl _ _⟩
    ·have hp : 0 ≤ c * r ∧ c * r ≤ 4096 * 4096 := ⟨Int.mul_nonneg (by omega) (by omega), Int.mul_le_mul (by omega) (by omega) (by omega) (by omega)⟩
     have hw : IntKind.i64.wrap (c * r) = c * r := by rw [IntKind.wrap_i64]; omega
     clear hp
     by_cases h5 : 4194304 < c * r
     ·obtain rfl := hn.out fun h => by omega
      obtain rfl := hk.out
      clear hs hn hk
      go_enter Tryz.func37, Tryz.ntmps37
      go_wp2
      go_ret
      exact ⟨rfl, Below.refl _ _⟩
     ·obtain rfl := hs.out.2 ⟨by omega, by omega, by omega, by omega, by omega⟩
      obtain rfl := hk.out
      clear hs hn hk
      go_enter Tryz.func37, Tryz.ntmps37
      go_wp2
      go_ret
      exact ⟨rfl, Below.refl _ _⟩
theorem S1near_g (n : Int) (hn : -9223372036854775808 ≤ n ∧ n ≤ 9223372036854775807) (w : World) : Calls Tryz.prog 51 #[.int .i64 n] w (RetI w (max (-10000) (min 10000 n))) := by
 go_enter Tryz.func51, Tryz.ntmps51
 go_wp2
 go_ret
 exact ⟨rfl, Below.refl _ _⟩
theorem pix_in {m : Bm} (hm : bmB m = true) {x y : Int} (hi : inB m.w m.h x y = true) :
  ∃ (k : Nat) (q : Int) (hk : k < m.d.length), pixZ m x y = m.d[k] ∧ IntKind.i64.wrap (y * m.w) = q ∧ IntKind.i64.wrap (q + x) = (k : Int) := by
 obtain ⟨⟨a, b, c, d, e⟩, hl⟩ := W5.1 hm
 obtain ⟨x0, x1, y0, y1⟩ := Qd.1 hi
 have h0 : 0 ≤ y * m.w := Int.mul_nonneg y0 (by omega)
 have h1 : y * m.w + m.w ≤ m.w * m.h := by
  have : (y + 1) * m.w ≤ m.h * m.w := Int.mul_le_mul_of_nonneg_right (by omega) (by omega)
  rw [Int.add_mul, Int.one_mul, Int.mul_comm m.h] at this
  exact this
 have hk : (y * m.w + x).toNat < m.d.length := by omega
 refine ⟨(y * m.w + x).toNat, y * m.w, hk, ?_, ?_, ?_⟩
 ·unfold pixZ
  rw [hi, Bool.true_and, List.getD_eq_getElem?_getD, List.getElem?_eq_getElem hk]
  rfl
 ·rw [IntKind.wrap_i64]; omega
 ·rw [IntKind.wrap_i64]; omega
set_option maxHeartbeats 1000000 in
theorem Sinside_g (x y c r : Int) (w : World) : Calls Tryz.prog 47 #[.agg #[.int .i64 x, .int .i64 y], .int .i64 c, .int .i64 r] w (RetB w (inB c r x y)) := by
 have hs := hid (Qd (w := c) (h := r) (x := x) (y := y))
 generalize inB c r x y = t at *
 have hn : Hid (¬ (0 ≤ x ∧ x < c ∧ 0 ≤ y ∧ y < r) → t = false) := fun h => Bool.eq_false_iff.2 fun e => h (hs.out.1 e)
 go_enter Tryz.func47, Tryz.ntmps47
 go_upto_region 1 with fail
 refine Qh (P := fun u => Code.wp _ _ _ _ u) ?_
 intro u HB c0 c1 zn hsz
 clear hsz zn
 by_cases h1 : 0 ≤ x
 ·by_cases h2 : x < c
  ·by_cases h3 : 0 ≤ y
   ·by_cases h4 : y < r
    ·obtain rfl := hs.out.2 ⟨h1, h2, h3, h4⟩
     clear hs hn
     go_wp2
     go_ret
     exact ⟨rfl, HB⟩
    ·obtain rfl := hn.out fun h => h4 h.2.2.2
     clear hs hn
     go_wp2
     go_ret
     exact ⟨rfl, HB⟩
   ·obtain rfl := hn.out fun h => h3 h.2.2.1
    clear hs hn
    go_wp2
    go_ret
    exact ⟨rfl, HB⟩
  ·obtain rfl := hn.out fun h => h2 h.2.1
   clear hs hn
   go_wp2
   go_ret
   exact ⟨rfl, HB⟩
 ·obtain rfl := hn.out fun h => h1 h.1
  clear hs hn
  go_wp2
  go_ret
  exact ⟨rfl, HB⟩
set_option maxHeartbeats 1000000 in
theorem Sdark_g {m : Bm} {A : Option Addr} {c : Nat} {w : World} (hm : bmB m = true) (hb : Mb w A c m.d) (x y : Int) :
  Calls Tryz.prog 35 #[.agg #[.int .i64 m.w, .int .i64 m.h, .slice A m.d.length c], .agg #[.int .i64 x, .int .i64 y]] w (RetB w (pixZ m x y)) := by
 have HI := hid fun (W : World) => Sinside_g x y m.w m.h W
 have HM := hid fun (W : World) (h : Below w.heap.size w W) => hb.below h
 have hpo := hid (Ej (m := m) (x := x) (y := y))
 have hpi := hid fun h => pix_in hm (x := x) (y := y) h
 obtain ⟨tp, htp⟩ : ∃ t, pixZ m x y = t := ⟨_, rfl⟩
 rw [htp] at hpo hpi ⊢
 clear hb htp
 go_enter Tryz.func35, Tryz.ntmps35
 go_upto_region 1 with fail
 refine Jc (P := fun u => Code.wp _ _ _ _ u) (c0 := [.int .i64 m.w, .int .i64 m.h, .slice A m.d.length c]) (c1 := [.int .i64 x, .int .i64 y]) ?_
 intro u HB r0 r1 zn0 zn1 hsz
 clear hsz zn0 zn1
 have c0 : (u).cell? ⟨w.heap.size, 0, none⟩ = some (.int .i64 m.w) := r0 0 _ rfl
 have c1 : (u).cell? ⟨w.heap.size, 1, none⟩ = some (.int .i64 m.h) := r0 1 _ rfl
 have c2 : (u).cell? ⟨w.heap.size, 2, none⟩ = some (.slice A m.d.length c) := r0 2 _ rfl
 have p0 : u.cell? ⟨w.heap.size + 1, 0, none⟩ = some (.int .i64 x) := r1 0 _ rfl
 have p1 : u.cell? ⟨w.heap.size + 1, 1, none⟩ = some (.int .i64 y) := r1 1 _ rfl
 clear r0 r1
 go_wp2_with fail
 refine (HI.out u).mono ?_
 rintro e v ⟨rfl, hv⟩
 have c0 := Ka hv c0
 have c1 := Ka hv c1
 have c2 := Ka hv c2
 have p0 := Ka hv p0
 have p1 := Ka hv p1
 have HB := Kb HB hv
 cases hi : inB m.w m.h x y
 ·obtain rfl := hpo.out hi
  clear HI HM hpo hpi hi hv
  go_wp2
  go_ret
  exact ⟨rfl, HB⟩
 ·obtain ⟨k, q, hk, e1, e2, e3⟩ := hpi.out hi
  obtain ⟨b, o, rfl, hc⟩ := (HM.out v HB).at_ hk
  have e1 := hid e1
  have hkn : (k : Int) < (m.d.length : Int) := by omega
  clear HI HM hpo hpi hi hv
  generalize m.d[k] = t at *
  generalize m.d.length = n at *
  go_wp2
  go_ret
  exact ⟨by rw [e1.out]; rfl, HB⟩
set_option maxHeartbeats 1000000 in
theorem S1At_g {m : Bm} {A : Option Addr} {c : Nat} {w : World} (hm : bmB m = true) (hb : Mb w A c m.d) (x y : Int) :
  Calls Tryz.prog 40 #[.agg #[.int .i64 m.w, .int .i64 m.h, .slice A m.d.length c], .int .i64 x, .int .i64 y] w (RetB w (pixZ m x y)) := by
 have HI := hid fun (W : World) => D6 m A c W
 rw [hm] at HI
 have HM := hid fun (W : World) (h : Below w.heap.size w W) => hb.below h
 have hpo := hid fun h => Ej (m := m) (x := x) (y := y) (by rw [← Bool.not_eq_true, Qd]; exact h)
 have hpi := hid fun h => pix_in hm (x := x) (y := y) (Qd.2 h)
 obtain ⟨tp, htp⟩ : ∃ t, pixZ m x y = t := ⟨_, rfl⟩
 rw [htp] at hpi ⊢
 simp only [htp] at hpo
 clear hb htp
 go_enter Tryz.func40, Tryz.ntmps40
 go_upto_region 1 with fail
 refine Kw (P := fun u => Code.wp _ _ _ _ u) (c := [.int .i64 m.w, .int .i64 m.h, .slice A m.d.length c]) ?_
 intro u HB r0 zn0 hsz
 clear hsz zn0
 have c0 : (u).cell? ⟨w.heap.size, 0, none⟩ = some (.int .i64 m.w) := r0 0 _ rfl
 have c1 : (u).cell? ⟨w.heap.size, 1, none⟩ = some (.int .i64 m.h) := r0 1 _ rfl
 have c2 : (u).cell? ⟨w.heap.size, 2, none⟩ = some (.slice A m.d.length c) := r0 2 _ rfl
 clear r0
 go_wp2_with fail
 refine (HI.out u).mono ?_
 rintro e v ⟨rfl, hv⟩
 have c0 := Ka hv c0
 have c1 := Ka hv c1
 have c2 := Ka hv c2
 have HB := Kb HB hv
 clear HI hv
 by_cases h1 : 0 ≤ x
 ·by_cases h2 : x < m.w
  ·by_cases h3 : 0 ≤ y
   ·by_cases h4 : y < m.h
    ·obtain ⟨k, q, hk, e1, e2, e3⟩ := hpi.out ⟨h1, h2, h3, h4⟩
     obtain ⟨b, o, rfl, hc⟩ := (HM.out v HB).at_ hk
     have e1 := hid e1
     have hkn : (k : Int) < (m.d.length : Int) := by omega
     clear HM hpo hpi
     generalize m.d[k] = t at *
     generalize m.d.length = n at *
     go_wp2
     go_ret
     exact ⟨by rw [e1.out]; rfl, HB⟩
    ·obtain rfl := hpo.out fun h => h4 h.2.2.2
     clear HM hpo hpi
     go_wp2
     go_ret
     exact ⟨rfl, HB⟩
   ·obtain rfl := hpo.out fun h => h3 h.2.2.1
    clear HM hpo hpi
    go_wp2
    go_ret
    exact ⟨rfl, HB⟩
  ·obtain rfl := hpo.out fun h => h2 h.2.1
   clear HM hpo hpi
   go_wp2
   go_ret
   exact ⟨rfl, HB⟩
 ·obtain rfl := hpo.out fun h => h1 h.1
  clear HM hpo hpi
  go_wp2
  go_ret
  exact ⟨rfl, HB⟩
def eqM (a b : Bm) : Bool := decide (a.w = b.w) && decide (a.h = b.h) && decide (a.d = b.d)
theorem Wh (a b : Bm) {A B : Option Addr} {c d : Nat} {w : World} (ha : Mb w A c a.d) (hb : Mb w B d b.d) :
  Calls Tryz.prog 15 #[.agg #[.int .i64 a.w, .int .i64 a.h, .slice A a.d.length c], .agg #[.int .i64 b.w, .int .i64 b.h, .slice B b.d.length d]] w (RetB w (eqM a b)) := by
 have HM := hid fun (W : World) (h : Below w.heap.size w W) => ha.below h
 have HM' := hid fun (W : World) (h : Below w.heap.size w W) => hb.below h
 obtain ⟨tp, htp⟩ : ∃ t, eqM a b = t := ⟨_, rfl⟩
 have hT := hid htp
 unfold eqM at hT
 rw [htp]
 have hmx := Nat.le_trans ha.cap ha.max
 clear ha hb htp
 go_enter Tryz.func15, Tryz.ntmps15
 go_upto_region 1 with fail
 refine Jc (P := fun u => Code.wp _ _ _ _ u) (c0 := [.int .i64 a.w, .int .i64 a.h, .slice A a.d.length c]) (c1 := [.int .i64 b.w, .int .i64 b.h, .slice B b.d.length d]) ?_
 intro u HB r0 r1 zn0 zn1 hsz
 clear hsz zn0 zn1
 have c0 : (u).cell? ⟨w.heap.size, 0, none⟩ = some (.int .i64 a.w) := r0 0 _ rfl
 have c1 : (u).cell? ⟨w.heap.size, 1, none⟩ = some (.int .i64 a.h) := r0 1 _ rfl
 have c2 : (u).cell? ⟨w.heap.size, 2, none⟩ = some (.slice A a.d.length c) := r0 2 _ rfl
 have d0 : (u).cell? ⟨w.heap.size + 1, 0, none⟩ = some (.int .i64 b.w) := r1 0 _ rfl
 have d1 : (u).cell? ⟨w.heap.size + 1, 1, none⟩ = some (.int .i64 b.h) := r1 1 _ rfl
 have d2 : (u).cell? ⟨w.heap.size + 1, 2, none⟩ = some (.slice B b.d.length d) := r1 2 _ rfl
 clear r0 r1
 by_cases h1 : a.w = b.w
 ·by_cases h2 : a.h = b.h
  ·by_cases h3 : a.d.length = b.d.length
   ·obtain ⟨aw, ah, ad⟩ := a
    obtain ⟨bw, bh, bd⟩ := b
    dsimp only at *
    subst h1 h2
    simp only [decide_true, Bool.true_and] at hT
    rw [← h3] at d2
    have hlen := hid h3
    clear h3
    obtain ⟨n, hn⟩ : ∃ n, n = ad.length := ⟨_, rfl⟩
    rw [← hn] at c2 d2 hmx hlen
    have hn := hid hn
    have K := hid (And.intro (And.intro c0 (And.intro c1 c2)) (And.intro d0 (And.intro d1 d2)))
    have hBv := Below.refl u.heap.size u
    go_wp2
    go_loopw [5] (fun i wr => ∃ k : Nat, k ≤ n ∧ i = .int .i64 k ∧ Below u.heap.size u wr ∧ Hid (ad.take k = bd.take k)) (fun i _ => n - (intOf i).toNat)
    case atStart => exact ⟨0, Nat.zero_le _, rfl, hBv, rfl⟩
    case round =>
     obtain ⟨k, hk, rfl, hbl, heq⟩ := hrel
     clear hBv c0 c1 c2 d0 d1 d2
     obtain ⟨⟨c0, c1, c2⟩, ⟨d0, d1, d2⟩⟩ := K.out
     have c2 := Ka hbl c2
     have d2 := Ka hbl d2
     clear c0 c1 d0 d1
     have HBr := Kb HB hbl
     have lt0 := Kd c2
     have lt1 := Kd d2
     by_cases h0 : k < n
     ·have hka : k < ad.length := by rw [← hn.out]; exact h0
      have hkb : k < bd.length := by rw [← hlen.out]; exact h0
      have hkn : (k : Int) < (n : Int) := by omega
      obtain ⟨ba, oa, rfl, hca⟩ := (HM.out wr HBr).at_ hka
      obtain ⟨bb, ob, rfl, hcb⟩ := (HM'.out wr HBr).at_ hkb
      have hna : ad[k] = bd[k] → Hid (ad.take (k + 1) = bd.take (k + 1)) := fun e => by
       unfold Hid
       rw [List.take_succ_eq_append_getElem hka, List.take_succ_eq_append_getElem hkb, heq.out, e]
      have hnb : ad[k] ≠ bd[k] → tp = false := fun e => by
       rw [← hT.out, decide_eq_false]
       rintro rfl
       exact e rfl
      generalize ad[k] = t1 at *
      generalize bd[k] = t2 at *
      by_cases ht : t1 = t2
      ·subst ht
       have he := hid (hna rfl)
       clear hna hnb heq
       go_wp2
       go_quiet (fail)
       go_wp2
       cases t1
       all_goals
        go_wp2
        go_roundw
        case rel => exact ⟨k + 1, by omega, by go_num, BG, he.out⟩
        case measure => simp [intOf]; omega
      ·obtain rfl := hnb ht
       clear hna hnb heq
       cases t1 <;> cases t2 <;> simp at ht
       all_goals
        go_wp2
        go_quiet (fail)
        go_wp2
        go_ret
        exact ⟨rfl, BG⟩
     ·obtain rfl : k = n := by omega
      have he : tp = true := by
       rw [← hT.out, decide_eq_true_iff]
       have := heq.out
       rwa [hn.out, List.take_length, ← hn.out, hlen.out, List.take_length] at this
      subst he
      clear heq
      go_wp2
      go_ret
      exact ⟨rfl, HBr⟩
   ·obtain rfl : tp = false := by
     rw [← hT.out, decide_eq_false (p := a.d = b.d) fun e => h3 (by rw [e]), Bool.and_false]
    have h3' : ¬ (a.d.length : Int) = (b.d.length : Int) := by omega
    clear hT HM HM'
    generalize a.d.length = n1 at *
    generalize b.d.length = n2 at *
    go_wp2
    go_ret
    exact ⟨rfl, HB⟩
  ·obtain rfl : tp = false := by
    rw [← hT.out, decide_eq_false h2, Bool.and_false, Bool.false_and]
   clear hT HM HM'
   generalize a.d.length = n1 at *
   generalize b.d.length = n2 at *
   go_wp2
   go_ret
   exact ⟨rfl, HB⟩
 ·obtain rfl : tp = false := by
   rw [← hT.out, decide_eq_false h1, Bool.false_and, Bool.false_and]
  clear hT HM HM'
  generalize a.d.length = n1 at *
  generalize b.d.length = n2 at *
  go_wp2
  go_ret
  exact ⟨rfl, HB⟩
theorem fdiv_exact {a b : Int} (h : a.tmod b = 0) : Int.fdiv a b = a.tdiv b := by
 rw [Int.fdiv_eq_tdiv, if_pos (Int.dvd_iff_tmod_eq_zero.2 h), Int.sub_zero]
theorem fdiv_same {a b : Int} (hb : b ≠ 0) (h : decide (a < 0) = decide (b < 0)) : Int.fdiv a b = a.tdiv b := by
 rw [Int.fdiv_eq_tdiv]
 split
 ·omega
 ·rcases Int.lt_or_gt_of_ne hb with h1 | h1
  ·rw [decide_eq_true h1, decide_eq_true_iff] at h
   rw [if_neg (by omega), if_neg (by omega), Int.sign_eq_neg_one_of_neg h1]; omega
  ·rw [decide_eq_false (p := b < 0) (by omega), decide_eq_false_iff_not] at h
   rw [if_pos (by omega), if_pos (by omega)]; omega
theorem fdiv_other {a b : Int} (hb : b ≠ 0) (hm : a.tmod b ≠ 0) (h : decide (a < 0) ≠ decide (b < 0)) : Int.fdiv a b = a.tdiv b - 1 := by
 rw [Int.fdiv_eq_tdiv, if_neg (fun e => hm (Int.dvd_iff_tmod_eq_zero.1 e))]
 rcases Int.lt_or_gt_of_ne hb with h1 | h1
 ·rw [decide_eq_true h1] at h
  have : ¬ a < 0 := fun e => h (decide_eq_true e)
  rw [if_pos (by omega), if_neg (by omega)]
 ·rw [decide_eq_false (p := b < 0) (by omega)] at h
  have : a < 0 := by
   rcases Int.lt_or_le a 0 with h2 | h2
   ·exact h2
   ·exact absurd (decide_eq_false (by omega)) h
  rw [if_neg (by omega), if_pos (by omega), Int.sign_eq_one_of_pos h1]
theorem dmQ_flip {x y : Int} (e1 : decide (-x < 0) = !decide (x < 0)) (e2 : decide (-y < 0) = !decide (y < 0)) : dmQ (-x) (-y) = dmQ x y := by
 have hP : dmP (-x) (-y) ↔ dmP x y := by
  unfold dmP
  rw [e1, e2, Int.natAbs_neg, Int.natAbs_neg]
  cases decide (x < 0) <;> cases decide (y < 0) <;> simp
 have hs : (decide (-x < 0) != decide (-y < 0)) = (decide (x < 0) != decide (y < 0)) := by
  rw [e1, e2]
  cases decide (x < 0) <;> cases decide (y < 0) <;> rfl
 unfold dmQ
 by_cases h : dmP x y
 ·rw [if_pos h, if_pos (hP.2 h), Int.natAbs_neg, Int.natAbs_neg]
 ·rw [if_neg h, if_neg fun e => h (hP.1 e), hs, Int.natAbs_neg, Int.natAbs_neg]
theorem dmQ_neg (x y : Int) (hy : y ≠ 0) : dmQ (-x) (-y) = dmQ x y := by
 rcases Int.lt_trichotomy x 0 with h | rfl | h
 ·have e1 : decide (-x < 0) = !decide (x < 0) := by rw [decide_eq_true h, decide_eq_false (by omega)]; rfl
  have e2 : decide (-y < 0) = !decide (y < 0) := by
   rcases Int.lt_or_gt_of_ne hy with h1 | h1
   ·rw [decide_eq_true h1, decide_eq_false (by omega)]; rfl
   ·rw [decide_eq_false (p := y < 0) (by omega), decide_eq_true (by omega)]; rfl
  exact dmQ_flip e1 e2
 ·have hP : ∀ z : Int, ¬ dmP 0 z := fun z h => by
   unfold dmP at h
   simp at h
  unfold dmQ
  rw [Int.neg_zero, if_neg (hP _), if_neg (hP _)]
  simp [sg]
 ·have e1 : decide (-x < 0) = !decide (x < 0) := by rw [decide_eq_false (p := x < 0) (by omega), decide_eq_true (by omega)]; rfl
  have e2 : decide (-y < 0) = !decide (y < 0) := by
   rcases Int.lt_or_gt_of_ne hy with h1 | h1
   ·rw [decide_eq_true h1, decide_eq_false (by omega)]; rfl
   ·rw [decide_eq_false (p := y < 0) (by omega), decide_eq_true (by omega)]; rfl
  exact dmQ_flip e1 e2
theorem Dm (x y : Int) (hy : y ≠ 0) : dmQ x y = Int.fdiv x y := by
 have hp : ∀ (x : Int) (d : Nat), d ≠ 0 → dmQ x d = Int.fdiv x d := fun x d hd => by
  rw [(dm_floor x hd).1, Int.fdiv_eq_ediv_of_nonneg _ (by omega)]
 rcases Int.lt_or_gt_of_ne hy with h | h
 ·have := hp (-x) y.natAbs (by omega)
  rw [show (y.natAbs : Int) = -y by omega, dmQ_neg x y hy, Int.neg_fdiv_neg] at this
  exact this
 ·have := hp x y.natAbs (by omega)
  rwa [show (y.natAbs : Int) = y by omega] at this
theorem Gr (x y : Int) (hy : y ≠ 0) : (Int.fdiv x y).natAbs ≤ x.natAbs := by
 rw [← Dm x y hy]
 have h1 : x.natAbs / y.natAbs * y.natAbs + x.natAbs % y.natAbs = x.natAbs := by rw [Nat.mul_comm]; exact Nat.div_add_mod _ _
 have h2 : x.natAbs / y.natAbs ≤ x.natAbs / y.natAbs * y.natAbs := Nat.le_mul_of_pos_right _ (by omega)
 unfold dmQ
 split
 ·rename_i h
  obtain ⟨_, h3⟩ := h
  unfold sg
  rw [if_pos rfl, Int.natAbs_neg, Int.natAbs_natCast]
  generalize x.natAbs / y.natAbs = q at *
  generalize x.natAbs % y.natAbs = r at *
  generalize q * y.natAbs = s at *
  omega
 ·unfold sg
  split
  ·rw [Int.natAbs_neg, Int.natAbs_natCast]; omega
  ·rw [Int.natAbs_natCast]; omega
theorem fdiv_fit {x y : Int} (hy : y ≠ 0) (h : fits x) : fits (Int.fdiv x y) := by
 have h1 := Gr x y hy
 unfold fits at *
 exact Nat.le_trans (Kv h1) h
set_option maxHeartbeats 1000000 in
theorem Sfloor_g (a b : Int) (hb : b ≠ 0) (ha : a.natAbs ≤ 4611686018427387904) (w : World) : Calls Tryz.prog 62 #[.int .i64 a, .int .i64 b] w (RetI w (Int.fdiv a b)) := by
 have h1 := Int.natAbs_tdiv_le_natAbs a b
 have h2 : (a.tmod b).natAbs ≤ a.natAbs := by rw [Int.natAbs_tmod]; exact Nat.mod_le _ _
 obtain ⟨q, hq'⟩ : ∃ q, a.tdiv b = q := ⟨_, rfl⟩
 have hq : IntKind.i64.wrap (a.tdiv b) = q := by rw [IntKind.wrap_i64]; omega
 have hq1 : IntKind.i64.wrap (q - 1) = q - 1 := by rw [IntKind.wrap_i64]; omega
 obtain ⟨f, hf⟩ : ∃ f, Int.fdiv a b = f := ⟨_, rfl⟩
 rw [hf]
 have hf := hid hf
 clear h1 h2 ha
 by_cases h0 : a.tmod b = 0
 ·have hE := hid (fdiv_exact h0)
  rw [hf.out, hq'] at hE
  obtain rfl := hE.out
  clear hq1 hE hf hq'
  go_enter Tryz.func62, Tryz.ntmps62
  go_wp2
  go_ret
  exact ⟨rfl, Below.refl _ _⟩
 ·have hS := hid (fdiv_same (a := a) hb)
  have hO := hid (fdiv_other hb h0)
  rw [hf.out, hq'] at hS hO
  clear hq'
  by_cases ha : a < 0
  ·by_cases hbb : b < 0
   ·have hf := hid (hS.out (by rw [decide_eq_true ha, decide_eq_true hbb]))
    obtain rfl := hf.out
    clear hS hO
    go_enter Tryz.func62, Tryz.ntmps62
    go_wp2
    go_ret
    exact ⟨rfl, Below.refl _ _⟩
   ·have hf := hid (hO.out (by rw [decide_eq_true ha, decide_eq_false hbb]; decide))
    obtain rfl := hf.out
    clear hS hO
    go_enter Tryz.func62, Tryz.ntmps62
    go_wp2
    go_ret
    exact ⟨rfl, Below.refl _ _⟩
  ·have h0e : ¬ a % b = 0 := by rw [← Int.tmod_eq_emod_of_nonneg (by omega)]; exact h0
   by_cases hbb : b < 0
   ·have hf := hid (hO.out (by rw [decide_eq_false ha, decide_eq_true hbb]; decide))
    obtain rfl := hf.out
    clear hS hO
    go_enter Tryz.func62, Tryz.ntmps62
    go_wp2
    go_ret
    exact ⟨rfl, Below.refl _ _⟩
   ·have hf := hid (hS.out (by rw [decide_eq_false ha, decide_eq_false hbb]))
    obtain rfl := hf.out
    clear hS hO
    go_enter Tryz.func62, Tryz.ntmps62
    go_wp2
    go_ret
    exact ⟨rfl, Below.refl _ _⟩
set_option maxRecDepth 100000 in
set_option maxHeartbeats 2000000 in
theorem Ur {x y : Int} {b b' : Bool} {n n' : Nat} {xs ys : List Nat} {A B : Option Addr} {c d : Nat} {w : World} (hx : Iz x b n xs) (hy : Iz y b' n' ys) (ha : Mg w A c xs) (hb : Mg w B d ys) (fx : fits x) (fy : fits y) (h0 : y ≠ 0) :
  Calls Tryz.prog 98 #[.agg #[.bool b, .slice A n c], .agg #[.bool b', .slice B n' d]] w (RetI w (clP (Int.fdiv x y))) := by
 obtain ⟨b2, n2, L2, I2⟩ := iz (Int.fdiv x y)
 obtain ⟨b3, n3, L3, I3⟩ := iz (dmR x y)
 have HX := hid fun (w1 : World) (h' : Below w.heap.size w w1) => Dh (w := w1) hx hy I2.out I3.out (ha.below h') (hb.below h') fx fy h0 (Dm x y h0) rfl
 have hfz := fdiv_fit h0 fx
 have HT := hid fun (w1 : World) (R : Option Addr) (cc : Nat) (m : Mg w1 R cc L2) => ToInt_g (w := w1) I2.out m hfz (toI (Int.fdiv x y)).1 (err := (toI (Int.fdiv x y)).2) rfl
 have hC : Hid (clP (Int.fdiv x y) = if (toI (Int.fdiv x y)).2 = 0 then (toI (Int.fdiv x y)).1 else -1) := by
  unfold Hid clP toI
  split <;> rfl
 have hE : (toI (Int.fdiv x y)).2 = 0 ∨ (toI (Int.fdiv x y)).2 = 13 := by
  unfold toI
  split
  ·exact Or.inl rfl
  ·exact Or.inr rfl
 generalize clP (Int.fdiv x y) = rz at *
 generalize (toI (Int.fdiv x y)).1 = tz at *
 generalize (toI (Int.fdiv x y)).2 = te at *
 clear hx hy ha hb fx fy h0 I2 I3 hfz
 go_enter Tryz.func98, Tryz.ntmps98
 go_wp2_with fail
 refine enterII (P := fun u => Calls _ _ _ u _) ?_
 intro u HB q0 q1 r0 r1 z1 z2 hsz
 clear hsz
 have f_z1 := z1.fr
 have f_z2 := z2.fr
 have lt_q0 := Kd q0
 have lt_r0 := Kd r0
 refine (HX.out _ HB).mono ?_
 rintro e w1 ⟨R1, c1, R2, c2, rfl, m1, m2, h1⟩
 clear q0 q1 r0 r1 z1 z2 f_z1 f_z2 lt_q0 lt_r0
 have HB := Kb HB h1
 go_upto_region 2 with fail
 have a0 := Kk (b := .cells #[.bool b3, .slice R2 n3 c2] 27) (K5 (W := w1) (a := .bool b2) (b := .slice R1 n2 c1) (t := 27) rfl)
 have a1 := Kk (b := .cells #[.bool b3, .slice R2 n3 c2] 27) (K7 (W := w1) (a := .bool b2) (b := .slice R1 n2 c1) (t := 27) rfl)
 have e0 := K5 (W := w1.alloc (.cells #[.bool b2, .slice R1 n2 c1] 27)) (a := .bool b3) (b := .slice R2 n3 c2) (t := 27) rfl
 have e1 := K7 (W := w1.alloc (.cells #[.bool b2, .slice R1 n2 c1] 27)) (a := .bool b3) (b := .slice R2 n3 c2) (t := 27) rfl
 have hv_ : Below w1.heap.size w1 ((w1.alloc (.cells #[.bool b2, .slice R1 n2 c1] 27)).alloc (.cells #[.bool b3, .slice R2 n3 c2] 27)) := ((Below.refl _ _).alloc (Nat.le_refl _) _).alloc (by simp) _
 simp only [World.size_alloc] at e0 e1
 generalize (w1.alloc (.cells #[.bool b2, .slice R1 n2 c1] 27)).alloc (.cells #[.bool b3, .slice R2 n3 c2] 27) = u1 at *
 replace m1 := m1.below hv_
 replace HB := HB.trans (hv_.mono HB.size)
 clear hv_
 have lt_a := Kd a0
 go_wp2_with fail
 refine (HT.out _ _ _ m1).mono ?_
 rintro e w2 ⟨rfl, h2⟩
 have HB := Kb HB h2
 clear HX HT a0 a1 e0 e1
 rcases hE with rfl | rfl
 ·go_wp2
  go_ret
  exact ⟨by rw [hC.out]; rfl, HB⟩
 ·go_wp2
  go_ret
  exact ⟨by rw [hC.out]; rfl, HB⟩
set_option maxRecDepth 100000 in
set_option maxHeartbeats 2000000 in
theorem S4floor_g {x y : Int} {b b' : Bool} {n n' : Nat} {xs ys : List Nat} {A B : Option Addr} {c d : Nat} {w : World} (hx : Iz x b n xs) (hy : Iz y b' n' ys) (ha : Mg w A c xs) (hb : Mg w B d ys) (fx : fits x) (fy : fits y) (h0 : y ≠ 0) :
  Calls Tryz.prog 66 #[.agg #[.bool b, .slice A n c], .agg #[.bool b', .slice B n' d]] w (RetI w (clR (Int.fdiv x y))) := by
 obtain ⟨b2, n2, L2, I2⟩ := iz (Int.fdiv x y)
 obtain ⟨b3, n3, L3, I3⟩ := iz (dmR x y)
 have HX := hid fun (w1 : World) (h' : Below w.heap.size w w1) => RDivMod_g (w := w1) hx hy I2.out I3.out (ha.below h') (hb.below h') fx fy h0 (Dm x y h0) rfl
 have hfz := fdiv_fit h0 fx
 have hb2 : Hid (b2 = decide (Int.fdiv x y < 0)) := I2.out.1
 have HT := hid fun (w1 : World) (R : Option Addr) (cc : Nat) (m : Mg w1 R cc L2) => (show Calls Tryz.prog 104 #[.agg #[.bool b2, .slice R n2 cc]] w1 (RetIE w1 (toI (Int.fdiv x y)).1 (toI (Int.fdiv x y)).2) from by
  obtain ⟨e1, e2, e3⟩ := I2.out
  rw [e2] at m
  rw [e1, e3, e2]
  have := RToInt_ok (Int.fdiv x y) R cc w1 m hfz
  exact this)
 have hC : Hid (clR (Int.fdiv x y) = if Int.fdiv x y < 0 then -1 else if (toI (Int.fdiv x y)).2 = 0 ∧ (toI (Int.fdiv x y)).1 ≤ 4096 then (toI (Int.fdiv x y)).1 else 4096) := by
  unfold Hid clR toI
  split
  ·rfl
  ·split
   ·split
    ·dsimp only; rw [if_neg (by omega)]
    ·dsimp only; rw [if_neg (by simp)]
   ·have hr : -9223372036854775808 ≤ Int.fdiv x y ∧ Int.fdiv x y ≤ 9223372036854775807 := ⟨by omega, by omega⟩
    rw [if_pos hr, if_pos ⟨rfl, by show Int.fdiv x y ≤ 4096; omega⟩]
 have hE : (toI (Int.fdiv x y)).2 = 0 ∨ (toI (Int.fdiv x y)).2 = 13 := by
  unfold toI
  split
  ·exact Or.inl rfl
  ·exact Or.inr rfl
 generalize clR (Int.fdiv x y) = rz at *
 generalize (toI (Int.fdiv x y)).1 = tz at *
 generalize (toI (Int.fdiv x y)).2 = te at *
 generalize Int.fdiv x y = z at *
 clear hx hy ha hb fx fy h0 I2 I3 hfz
 go_enter Tryz.func66, Tryz.ntmps66
 go_wp2_with fail
 refine enterII (P := fun u => Calls _ _ _ u _) ?_
 intro u HB q0 q1 r0 r1 z1 z2 hsz
 clear hsz
 have f_z1 := z1.fr
 have f_z2 := z2.fr
 have lt_q0 := Kd q0
 have lt_r0 := Kd r0
 refine (HX.out _ HB).mono ?_
 rintro e w1 ⟨R1, c1, R2, c2, rfl, m1, m2, h1⟩
 clear q0 q1 r0 r1 z1 z2 f_z1 f_z2 lt_q0 lt_r0
 have HB := Kb HB h1
 go_upto_region 2 with fail
 have a0 := Kk (b := .cells #[.bool b3, .slice R2 n3 c2] 27) (K5 (W := w1) (a := .bool b2) (b := .slice R1 n2 c1) (t := 27) rfl)
 have a1 := Kk (b := .cells #[.bool b3, .slice R2 n3 c2] 27) (K7 (W := w1) (a := .bool b2) (b := .slice R1 n2 c1) (t := 27) rfl)
 have e0 := K5 (W := w1.alloc (.cells #[.bool b2, .slice R1 n2 c1] 27)) (a := .bool b3) (b := .slice R2 n3 c2) (t := 27) rfl
 have e1 := K7 (W := w1.alloc (.cells #[.bool b2, .slice R1 n2 c1] 27)) (a := .bool b3) (b := .slice R2 n3 c2) (t := 27) rfl
 have hv_ : Below w1.heap.size w1 ((w1.alloc (.cells #[.bool b2, .slice R1 n2 c1] 27)).alloc (.cells #[.bool b3, .slice R2 n3 c2] 27)) := ((Below.refl _ _).alloc (Nat.le_refl _) _).alloc (by simp) _
 simp only [World.size_alloc] at e0 e1
 generalize (w1.alloc (.cells #[.bool b2, .slice R1 n2 c1] 27)).alloc (.cells #[.bool b3, .slice R2 n3 c2] 27) = u1 at *
 replace m1 := m1.below hv_
 replace HB := HB.trans (hv_.mono HB.size)
 clear hv_
 have lt_a := Kd a0
 clear e0 e1
 by_cases hz : z < 0
 ·have hb2 := hb2.out
  rw [decide_eq_true hz] at hb2
  subst hb2
  have hC := hC.out
  rw [if_pos hz] at hC
  subst hC
  clear HX HT hE
  go_wp2
  go_ret
  exact ⟨rfl, HB⟩
 ·have hb2 := hb2.out
  rw [decide_eq_false hz] at hb2
  subst hb2
  have hC := hC.out
  rw [if_neg hz] at hC
  replace hC := hid hC
  go_wp2_with fail
  refine (HT.out _ _ _ m1).mono ?_
  rintro e w2 ⟨rfl, h2⟩
  have HB := Kb HB h2
  clear HX HT a0 a1
  rcases hE with rfl | rfl
  ·by_cases ht : 4096 < tz
   ·go_wp2
    go_ret
    exact ⟨by rw [hC.out, if_neg (by omega)]; rfl, HB⟩
   ·go_wp2
    go_ret
    exact ⟨by rw [hC.out, if_pos ⟨by trivial, by omega⟩]; rfl, HB⟩
  ·go_wp2
   go_ret
   exact ⟨by rw [hC.out, if_neg (by simp)]; rfl, HB⟩
end Go.Proofs.YtdkgbkbbbldliaaGreat
