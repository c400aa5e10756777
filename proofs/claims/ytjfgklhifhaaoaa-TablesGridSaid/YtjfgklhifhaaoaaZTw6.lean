/- Tables: valid bitmaps; Without of the package. Conditions: none. -/
import Derived.Test.YtjfgklhifhaaoaaZTw5
import Derived.Test.YtjfgklhifhaaoaaZTe1
set_option linter.unusedVariables false
set_option linter.unusedSimpArgs false
namespace Go.Proofs.Ytjfgklhifhaaoaa
open Go.RowKit
set_option maxHeartbeats 1000000 in
theorem RPossible (c r : Int) (w : World) : Calls Try.prog 34 #[.int .i64 c, .int .i64 r] w (RetB w (sizeB c r)) := by
 have hs := hid (sizeB_iff (c := c) (r := r))
 generalize sizeB c r = t at *
 have hn : Hid (¬ (1 ≤ c ∧ c ≤ 4096 ∧ 1 ≤ r ∧ r ≤ 4096 ∧ c * r ≤ 4194304) → t = false) := fun h => Bool.eq_false_iff.2 fun e => h (hs.out.1 e)
 by_cases h1 : 1 ≤ c
 ·by_cases h2 : c ≤ 4096
  ·by_cases h3 : 1 ≤ r
   ·by_cases h4 : r ≤ 4096
    ·have hp : 0 ≤ c * r ∧ c * r ≤ 4096 * 4096 := ⟨Int.mul_nonneg (by omega) (by omega), Int.mul_le_mul h2 h4 (by omega) (by omega)⟩
     have hw : IntKind.i64.wrap (c * r) = c * r := by rw [IntKind.wrap_i64]; omega
     clear hp
     by_cases h5 : c * r ≤ 4194304
     ·obtain rfl := hs.out.2 ⟨h1, h2, h3, h4, h5⟩
      clear hs hn
      go_enter Try.func34, Try.ntmps34
      go_wp2
      go_ret
      exact ⟨rfl, Below.refl _ _⟩
     ·obtain rfl := hn.out fun h => h5 h.2.2.2.2
      clear hs hn
      go_enter Try.func34, Try.ntmps34
      go_wp2
      go_ret
      exact ⟨rfl, Below.refl _ _⟩
    ·obtain rfl := hn.out fun h => h4 h.2.2.2.1
     clear hs hn
     go_enter Try.func34, Try.ntmps34
     go_wp2
     go_ret
     exact ⟨rfl, Below.refl _ _⟩
   ·obtain rfl := hn.out fun h => h3 h.2.2.1
    clear hs hn
    go_enter Try.func34, Try.ntmps34
    go_wp2
    go_ret
    exact ⟨rfl, Below.refl _ _⟩
  ·obtain rfl := hn.out fun h => h2 h.2.1
   clear hs hn
   go_enter Try.func34, Try.ntmps34
   go_wp2
   go_ret
   exact ⟨rfl, Below.refl _ _⟩
 ·obtain rfl := hn.out fun h => h1 h.1
  clear hs hn
  go_enter Try.func34, Try.ntmps34
  go_wp2
  go_ret
  exact ⟨rfl, Below.refl _ _⟩
/-- the error of a bitmap -/
def ckE (m : Bm) : Int := if bmB m then 0 else 1
theorem bm_size {m : Bm} (h : sizeB m.w m.h = false) : bmB m = false := by unfold bmB; rw [h]; rfl
theorem bm_len {m : Bm} (h : sizeB m.w m.h = true) : bmB m = decide ((m.d.length : Int) = m.w * m.h) := by unfold bmB; rw [h]; rfl
theorem size_wrap {c r : Int} (h : sizeB c r = true) : IntKind.i64.wrap (c * r) = c * r := by
 obtain ⟨a, b, d, e, f⟩ := sizeB_iff.1 h
 have : 0 ≤ c * r := Int.mul_nonneg (by omega) (by omega)
 rw [IntKind.wrap_i64]; omega
set_option maxHeartbeats 1000000 in
theorem RCheck_g (m : Bm) (A : Option Addr) (c : Nat) (w : World) : Calls Try.prog 19 #[.agg #[.int .i64 m.w, .int .i64 m.h, .slice A m.d.length c]] w (RetI w (ckE m)) := by
 have HP := hid fun (W : World) => RPossible m.w m.h W
 go_enter Try.func19, Try.ntmps19
 go_upto_region 1 with fail
 refine enterR (P := fun u => Code.wp _ _ _ _ u) (c := [.int .i64 m.w, .int .i64 m.h, .slice A m.d.length c]) ?_
 intro u HB r0 zn0 hsz
 clear hsz zn0
 have c0 : (u).cell? ⟨w.heap.size, 0, none⟩ = some (.int .i64 m.w) := r0 0 _ rfl
 have c1 : (u).cell? ⟨w.heap.size, 1, none⟩ = some (.int .i64 m.h) := r0 1 _ rfl
 have c2 : (u).cell? ⟨w.heap.size, 2, none⟩ = some (.slice A m.d.length c) := r0 2 _ rfl
 clear r0
 go_wp2_with fail
 refine (HP.out u).mono ?_
 rintro e v ⟨rfl, hv⟩
 have c0 := keep_cell hv c0
 have c1 := keep_cell hv c1
 have c2 := keep_cell hv c2
 have HB := bel_step HB hv
 cases hs : sizeB m.w m.h
 ·have hb := hid (bm_size hs)
  clear HP hs hv
  go_wp2
  go_ret
  exact ⟨by first | (simp only [ckE, hb.out]; rfl) | (simp [hb.out, h]; done), HB⟩
 ·obtain ⟨p, hp⟩ : ∃ p, m.w * m.h = p := ⟨_, rfl⟩
  have hw : IntKind.i64.wrap (m.w * m.h) = p := by rw [size_wrap hs, hp]
  have hl := hid (bm_len hs)
  rw [hp] at hl
  clear HP hs hv hp
  generalize m.d.length = n at *
  by_cases h : (n : Int) = p
  ·subst h
   have hb : Hid (bmB m = true) := by unfold Hid; rw [hl.out]; simp
   clear hl
   go_wp2
   go_ret
   exact ⟨by first | (simp only [ckE, hb.out]; rfl) | (simp [hb.out, h]; done), HB⟩
  ·have hb : Hid (bmB m = false) := by unfold Hid; rw [hl.out]; simp [h]
   have h' : ¬ p = (n : Int) := fun e => h e.symm
   clear hl
   go_wp2
   go_ret
   exact ⟨by first | (simp only [ckE, hb.out]; rfl) | (simp [hb.out, h]; done), HB⟩
end Go.Proofs.Ytjfgklhifhaaoaa
