/- Tables: the first pixels of the lines. Conditions: at most 1000 numbers from 0 to 4096. -/
import Derived.Test.YtjfgklhifhaaoaaZTw4
import Derived.Test.YtjfgklhifhaaoaaZTe1
import Derived.Test.YtjfgklhifhaaoaaZPG
set_option linter.unusedVariables false
set_option linter.unusedSimpArgs false
namespace Go.Proofs.Ytjfgklhifhaaoaa
open Go.RowKit
def edgL (l : List Int) (t : Int) (n : Nat) : List Int := (List.range (n + 1)).map (edgE l t)
theorem edgL_len (l : List Int) (t : Int) (n : Nat) : (edgL l t n).length = n + 1 := by simp [edgL]
theorem edgL_succ (l : List Int) (t : Int) (n : Nat) : edgL l t (n + 1) = edgL l t n ++ [edgE l t (n + 1)] := by
 unfold edgL
 rw [List.range_succ, List.map_append]; rfl
theorem edgL_at (l : List Int) (t : Int) (n j : Nat) (h : j < (edgL l t n).length) : (edgL l t n)[j] = edgE l t j := by simp [edgL]
theorem edgL_get (l : List Int) (t : Int) (n : Nat) (h : n < (edgL l t n).length) : (edgL l t n)[n] = edgE l t n := by simp [edgL]
theorem edgE_le {l : List Int} {t : Int} (h : ∀ x ∈ l, 0 ≤ x ∧ x ≤ 4096) (h1 : 0 ≤ t) (h2 : t ≤ 4096) : ∀ i, 0 ≤ edgE l t i ∧ edgE l t i ≤ 8192 * i
 | 0 => ⟨Int.le_refl _, Int.le_refl _⟩
 | i + 1 => by
  have := edgE_le h h1 h2 i
  have h3 : 0 ≤ l.getD i 0 ∧ l.getD i 0 ≤ 4096 := by
   rw [List.getD_eq_getElem?_getD]
   by_cases hi : i < l.length
   ·rw [List.getElem?_eq_getElem hi]; exact h _ (List.getElem_mem hi)
   ·rw [List.getElem?_eq_none (by omega)]; simp
  unfold edgE
  omega
set_option maxHeartbeats 4000000 in
theorem Ledg_g (l : List Int) (A : Option Addr) (c : Nat) (t : Int) {w : World} (hl : InK.Rd w A c l) (h : ∀ x ∈ l, 0 ≤ x ∧ x ≤ 4096) (h1 : 0 ≤ t) (h2 : t ≤ 4096) (h4 : l.length ≤ 1000) :
  Calls Try.prog 7 #[.slice A l.length c, .int .i64 t] w (InK.Ret w (edgL l t l.length)) := by
 obtain ⟨n, hn⟩ : ∃ n, l.length = n := ⟨_, rfl⟩
 have hM := hid fun (j : Nat) (hj : j < n) (W : World) (hb : Below w.heap.size w W) => (hl.below hb).at_ (j := j) (by omega)
 have cc := Nat.le_trans hl.cap hl.max
 have hbd := hid fun i => edgE_le h h1 h2 i
 have hvv := hid fun i (hi : i < l.length) => h _ (List.getElem_mem hi)
 have hsu := hid fun i => edgL_succ l t i
 have hge := hid fun i h => edgL_get l t i h
 have hle := hid fun i => edgL_len l t i
 have hst := hid fun i (hi : i < l.length) => (show edgE l t (i + 1) = edgE l t i + t + l[i] from by
  show _ + l.getD i 0 = _
  rw [List.getD_eq_getElem?_getD, List.getElem?_eq_getElem hi]; rfl)
 have hz0 : edgL l t 0 = [0] := rfl
 rw [hn] at cc h4 ⊢
 replace hn := hid hn
 generalize edgL l t = L at *
 generalize edgE l t = E at *
 clear hl h
 go_enter Try.func7, Try.ntmps7
 have hO0 : InK.Own (w.alloc (.cells #[.int .i64 0] 3)) w.heap.size (.slice (some ⟨w.heap.size, 0, none⟩) 1 1) (L 0) := by
  rw [hz0]
  exact ⟨rfl, .inr ⟨w.heap.size, 1, #[.int .i64 0], rfl, Nat.le_refl _, by show (w.heap.push _)[w.heap.size]? = _; simp; rfl, Nat.le_refl _, by unfold maxLen; omega, rfl, rfl⟩⟩
 have hb0 : Below w.heap.size w (w.alloc (.cells #[.int .i64 0] 3)) := (Below.refl _ _).alloc (Nat.le_refl _) _
 generalize hwA : w.alloc (.cells #[.int .i64 0] 3) = wA at hO0 hb0
 go_wp2
 (try rw [hwA])
 clear hwA hz0
 go_loopw [10, 5] (fun s10 s5 wr => ∃ i : Nat, s10 = .int .i64 (i : Int) ∧ i ≤ n ∧ InK.Own wr w.heap.size s5 (L i) ∧ Below w.heap.size w wr) (fun s10 _ _ => n - (intOf s10).toNat)
 case atStart => exact ⟨0, rfl, by omega, hO0, hb0⟩
 case round =>
  clear hO0 hb0
  obtain ⟨i, rfl, hi, hO, HB⟩ := hrel
  by_cases hin : i < n
  ·have hii : (i : Int) < (n : Int) := by omega
   have hil : i < l.length := by have := hn.out; omega
   obtain ⟨b, o, hA3, hc⟩ := hM.out i hin wr HB
   have e0 : wr.cell? ⟨b, o + i * 1, none⟩ = some (.int .i64 l[i]) := hc 0 _ rfl
   rw [Nat.mul_one] at e0
   subst hA3
   obtain ⟨A5, c5, rfl⟩ := hO.form InKo
   obtain ⟨hrd, -⟩ := hO.rd2 InKo
   have hLl := hle.out i
   obtain ⟨b5, o5, hB3, hc5⟩ := hrd.at_ (j := i) (by omega)
   have g0 : wr.cell? ⟨b5, o5 + i * 1, none⟩ = some (.int .i64 (E i)) := by
    have := hc5 0 _ rfl
    rwa [hge.out] at this
   rw [Nat.mul_one] at g0
   subst hB3
   have hs1 := hst.out i hil
   have hsu1 := hsu.out i
   obtain ⟨k1, k2⟩ := hbd.out i
   obtain ⟨v1, v2⟩ := hvv.out i hil
   rw [hs1] at hsu1
   rw [hLl] at hO ⊢
   clear hc hc5 hrd hs1
   generalize l[i] = q at *
   have w1 : IntKind.i64.wrap (E i + t) = E i + t := by rw [IntKind.wrap_i64]; omega
   have w2 : IntKind.i64.wrap (E i + t + q) = E i + t + q := by rw [IntKind.wrap_i64]; omega
   obtain ⟨ei, hei⟩ : ∃ z, E i + t + q = z := ⟨_, rfl⟩
   rw [hei] at w2 hsu1
   have hki : (i : Int) < (i : Int) + 1 := by omega
   go_upto_region 5 with fail
   have hbx : Below wr.heap.size wr (wr.alloc (.cells #[.int .i64 ei] 3)).drew := ((Below.refl _ _).alloc (Nat.le_refl _) _).drew
   have hOx := hO.below hbx
   have hBx := bel_step HB hbx
   have hr : (wr.alloc (.cells #[.int .i64 ei] 3)).drew.rangeAt wr.heap.size 0 [.int .i64 ei] := fun j v hv => keep_drew (rng_alloc (w := wr) (cs := [.int .i64 ei]) (t := 3) j v hv)
   have hxs := HB.size
   replace hO := hid hO
   go_region_law (refine Knd.step_app1 InKo rfl (.tmp 13) (.tmp 25) rfl w.heap.size (.slice (some ⟨b5, o5, none⟩) (i + 1) c5) (L i) ei wr.heap.size rfl hOx rfl hr (by omega) (by simp; omega) ?_; intro v' w' hO' hg' hat')
   all_goals
    have hb' := hid (Knd.grown hBx hOx hg' (by simp; omega) (Nat.le_refl _))
    replace hO' := hid hO'
    replace hsu1 := hid hsu1
    clear hg' hat' hOx hBx hr hbx hO g0 e0
    go_wp2
    go_roundw
    case rel => exact ⟨i + 1, by go_num, by omega, by rw [hsu1.out]; exact hO'.out, hb'.out⟩
    case measure => simp [intOf]; omega
  ·obtain rfl : i = n := by omega
   have hii : ¬ (i : Int) < (i : Int) := by omega
   replace hO := hid hO
   clear hM
   go_wp2
   go_ret
   exact ⟨_, rfl, hO.out, HB⟩
end Go.Proofs.Ytjfgklhifhaaoaa
