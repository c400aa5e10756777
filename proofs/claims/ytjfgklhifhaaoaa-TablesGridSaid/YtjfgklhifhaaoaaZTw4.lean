/- Tables: Draw of the package. Conditions: at most 1000 widths and heights. -/
import Derived.Test.YtjfgklhifhaaoaaZTw3
import Derived.Laws.MakeOwn
set_option linter.unusedVariables false
set_option linter.unusedSimpArgs false
namespace Go.Proofs.Ytjfgklhifhaaoaa
open Go.RowKit
theorem paint_g (W H : Int) (b : Bx) (d : List Bool) (g n c : Nat) (t : Bool) {w : World} (hs : sizeB W H = true) (hd : (d.length : Int) = W * H) (hn : d.length = n) (hx : 0 ≤ b.x ∧ b.x ≤ 1000000) (hy : 0 ≤ b.y ∧ b.y ≤ 1000000) (hbw : -1000000 ≤ b.w ∧ b.w ≤ 1000000) (hbh : -1000000 ≤ b.h ∧ b.h ≤ 1000000) (hP : PxA w g d) :
  Calls Try.prog 18 #[.agg #[.int .i64 W, .int .i64 H, .slice (some ⟨g, 0, none⟩) n c], .agg #[.int .i64 b.x, .int .i64 b.y, .int .i64 b.w, .int .i64 b.h], .bool t] w
   fun e w' => e = .returned (.tuple #[]) ∧ PxR w g (pntB W H d b t) w' := by
 obtain ⟨s1, s2, s3, s4, s5⟩ := sizeB_iff.1 hs
 obtain ⟨x, y, bw, bh⟩ := b
 dsimp only at *
 obtain ⟨W, rfl⟩ := Int.eq_ofNat_of_zero_le (show 0 ≤ W by omega)
 obtain ⟨H, rfl⟩ := Int.eq_ofNat_of_zero_le (show 0 ≤ H by omega)
 obtain ⟨X, rfl⟩ := Int.eq_ofNat_of_zero_le hx.1
 obtain ⟨Y, rfl⟩ := Int.eq_ofNat_of_zero_le hy.1
 have h1 := paint_n W H X Y bw bh d g n c t (w := w) (by rw [← Int.natCast_mul] at hd; omega) hn (by omega) (by omega) (by omega) (by omega) hbw hbh hP
 unfold pntB
 simpa using h1
/-! the sum of sizes -/
def extK (l : List Int) (t : Int) (i : Nat) : Int := (l.take i).foldl (fun s n => s + (n + t)) t
theorem extK_zero (l : List Int) (t : Int) : extK l t 0 = t := rfl
theorem extK_all (l : List Int) (t : Int) : extK l t l.length = extE l t := by unfold extK extE; rw [List.take_length]
theorem extK_succ {l : List Int} {t : Int} {i : Nat} (h : i < l.length) : extK l t (i + 1) = extK l t i + (l[i] + t) := by
 unfold extK
 rw [List.take_succ_eq_append_getElem h, List.foldl_append]; rfl
theorem extK_le {l : List Int} {t : Int} (h : ∀ n ∈ l, 1 ≤ n ∧ n ≤ 4096) (h1 : 1 ≤ t) (h2 : t ≤ 4096) (i : Nat) : t ≤ extK l t i ∧ extK l t i ≤ t + 8192 * i := by
 have := extE_go t (l.take i) t (fun n hn => h n (List.mem_of_mem_take hn)) h1 h2
 have h3 : (l.take i).length ≤ i := by rw [List.length_take]; omega
 unfold extK
 omega
set_option maxHeartbeats 2000000 in
theorem Text_g (l : List Int) (A : Option Addr) (c : Nat) (t : Int) {w : World} (hl : InK.Rd w A c l) (hb : ∀ n ∈ l, 1 ≤ n ∧ n ≤ 4096) (h1 : 1 ≤ t) (h2 : t ≤ 4096) (hln : l.length ≤ 1000) :
  Calls Try.prog 17 #[.slice A l.length c, .int .i64 t] w (RetI w (extE l t)) := by
 obtain ⟨n, hn⟩ : ∃ n, l.length = n := ⟨_, rfl⟩
 have hM := hid fun (j : Nat) (hj : j < n) (W : World) (hb : Below w.heap.size w W) => (hl.below hb).at_ (j := j) (by omega)
 have cc := Nat.le_trans hl.cap hl.max
 have hE := hid (extK_all l t)
 have hS := hid fun (i : Nat) (h : i < l.length) => extK_succ (t := t) h
 have hK := hid fun (i : Nat) => extK_le hb h1 h2 i
 have hV := hid fun (i : Nat) (h : i < l.length) => hb _ (List.getElem_mem h)
 have h0 := extK_zero l t
 rw [hn] at cc hE hln ⊢
 replace hn := hid hn
 generalize extE l t = R at *
 generalize extK l t = K at *
 clear hl hb
 have HB := Below.refl w.heap.size w
 go_enter Try.func17, Try.ntmps17
 go_wp2
 go_loopw [11, 5] (fun s11 s5 wr => ∃ i : Nat, s11 = .int .i64 i ∧ s5 = .int .i64 (K i) ∧ i ≤ n ∧ Below w.heap.size w wr) (fun s11 _ _ => n - (intOf s11).toNat)
 case atStart => exact ⟨0, rfl, by rw [h0], by omega, HB⟩
 case round =>
  clear HB
  obtain ⟨i, rfl, rfl, hi, HB⟩ := hrel
  by_cases hin : i < n
  ·have hii : (i : Int) < (n : Int) := by omega
   have hil : i < l.length := by have := hn.out; omega
   obtain ⟨b, o, hA3, hc⟩ := hM.out i hin wr HB
   have e0 : wr.cell? ⟨b, o + i * 1, none⟩ = some (.int .i64 l[i]) := hc 0 _ rfl
   rw [Nat.mul_one] at e0
   subst hA3
   have hs := hid (hS.out i hil)
   obtain ⟨v1, v2⟩ := hV.out i hil
   obtain ⟨k1, k2⟩ := hK.out i
   clear hc
   generalize l[i] = q at *
   have w1 : IntKind.i64.wrap (q + t) = q + t := by rw [IntKind.wrap_i64]; omega
   have w2 : IntKind.i64.wrap (K i + (q + t)) = K i + (q + t) := by rw [IntKind.wrap_i64]; omega
   clear v1 v2 k1 k2 h0
   go_wp2
   go_roundw
   case rel => exact ⟨i + 1, by go_num, by rw [hs.out], by omega, HB⟩
   case measure => simp [intOf]; omega
  ·obtain rfl : i = n := by omega
   have hii : ¬ (i : Int) < (i : Int) := by omega
   clear hM
   go_wp2
   go_ret
   exact ⟨by rw [hE.out]; rfl, HB⟩
/-- a bitmap and an error -/
def RetBE (w : World) (q : Bm × Int) (e : Ending) (w' : World) : Prop :=
 ∃ A c, e = .returned (.tuple #[.agg #[.int .i64 q.1.w, .int .i64 q.1.h, .slice A q.1.d.length c], .int .i64 q.2]) ∧ BoK.Rd w' A c q.1.d ∧ Below w.heap.size w w'
theorem BoK_flat (d : List Bool) : BoK.flat d = d.map bv := by
 induction d with
 | nil => rfl
 | cons a d ih => simp only [Knd.flat, ih, List.map_cons]; rfl
theorem PxA.rd {w : World} {g c : Nat} {d : List Bool} (h : PxA w g d) (hc : d.length ≤ c) (hm : c ≤ 9223372036854775807) : BoK.Rd w (some ⟨g, 0, none⟩) c d :=
 Knd.Rd.of_rng BoKo (by rw [BoK_flat]; exact h.r) h.z.lt hc hm
theorem infoBo : (Try.prog.info? 4).map (fun i => (i.zero, i.size, i.bytes)) = some (some (.bool false), 1, 1) := by kernel_rfl
/-- make([]bool, n) -/
theorem makeB (w : World) (n : Nat) (hn : n ≤ 4194304) (p : Int) (hp : p = (n : Int)) : (Instr.makeSlice 25 (.int .i64 p) (.int .i64 p)).run Try.prog w = .ok (.slice (some ⟨w.heap.size, 0, none⟩) n n) (w.alloc (.cells ((List.replicate n false).map bv).toArray 4)) := by
 subst hp
 have h := infoBo
 cases hi : Try.prog.info? 4 with
 | none => rw [hi] at h; simp at h
 | some i =>
  rw [hi] at h
  simp only [Option.map_some, Option.some.injEq, Prod.mk.injEq] at h
  obtain ⟨h1, h2, h3⟩ := h
  have := run_makeSlice (P := Try.prog) w 25 4 i _ Try.underlying25 hi h1 .i64 .i64 (n : Int) (n : Int) (by omega) (by omega) (by rw [h2]; simp; omega) (by rw [h3]; omega) (by omega)
  rw [h2] at this
  simp only [Int.toNat_natCast, Nat.mul_one] at this
  have e : madeCells (Value.bool false).cells n = ((List.replicate n false).map bv).toArray := by
   apply Array.ext
   ·simp [size_madeCells]
   ·intro j h1 h2
    simp [madeCells, Value.cells, bv, Nat.mod_one]
  rw [e] at this
  exact this
end Go.Proofs.Ytjfgklhifhaaoaa
