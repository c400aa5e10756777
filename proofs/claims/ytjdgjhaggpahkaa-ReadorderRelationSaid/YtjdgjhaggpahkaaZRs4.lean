/- Reading order: the stable sort of the indexes by their left edges. Conditions: at most 4096 boxes. -/
import Derived.Test.YtjdgjhaggpahkaaZWE
set_option linter.unusedVariables false
set_option linter.unusedSimpArgs false
namespace Go.Proofs.Ytjdgjhaggpahkaa
open Go.RowKit Go.Deep Go.Shelf Go.Lib Go.Sort
def cfX (l : List Bx) (n : Nat) (i k : Fin (n + 1)) : Int := cmp1 (l.getD i.val default).x (l.getD k.val default).x
theorem ltX (l : List Bx) (n : Nat) (i k : Fin (n + 1)) : ltOf (cfX l n) i k = decide ((l.getD i.val default).x < (l.getD k.val default).x) := by
 unfold ltOf cfX
 rw [decide_eq_decide]
 rcases cmp1_cases (l.getD i.val default).x (l.getD k.val default).x with ⟨h1, e1⟩ | ⟨h1, e1⟩ | ⟨h1, e1⟩ <;> rw [e1] <;> omega
theorem swoX (l : List Bx) (n : Nat) : SWO (ltOf (cfX l n)) where
 irrefl x := by rw [ltX]; simp
 trans x y z h1 h2 := by rw [ltX] at *; simp at *; omega
 ntrans x y z h1 h2 := by rw [ltX] at *; simp at *; omega
/-- no one is left of an earlier one -/
def SrtX (l : List Bx) (o : List Nat) : Prop := o.Pairwise fun i k => (l.getD i default).x ≤ (l.getD k default).x
theorem ins_nil (fv : Value) (w : World) : Calls Try.prog 51 #[.slice none 0 0, .int .i64 0, .int .i64 0, fv] w fun e w' => e = .returned (.tuple #[]) ∧ w' = w := by
 go_enter Try.func51, Try.ntmps51
 go_wp2
 refine wp_loop_rounds 1 ?_
 rw [rounds_succ]
 go_wp2
 go_end0
 exact ⟨rfl, rfl⟩
theorem stb_nil (fv : Value) (w : World) : Calls Try.prog 47 #[.slice none 0 0, .int .i64 0, fv] w fun e w' => e = .returned (.tuple #[]) ∧ w' = w := by
 have H := hid fun (W : World) => ins_nil fv W
 go_enter Try.func47, Try.ntmps47
 go_wp2
 refine wp_loop_rounds 1 ?_
 rw [rounds_succ]
 go_wp2_with fail
 refine (H.out _).mono ?_
 rintro e w1 ⟨rfl, rfl⟩
 go_wp2
 refine wp_loop_rounds 1 ?_
 rw [rounds_succ]
 go_wp2
 go_end0
 exact ⟨rfl, rfl⟩
theorem sst_nil (fv : Value) (w : World) : Calls Try.prog 39 #[.slice none 0 0, fv] w fun e w' => e = .returned (.tuple #[]) ∧ w' = w := by
 have H := hid fun (W : World) => stb_nil fv W
 go_enter Try.func39, Try.ntmps39
 go_wp2_with fail
 refine (H.out _).mono ?_
 rintro e w1 ⟨rfl, rfl⟩
 go_wp2
 go_end0
 exact ⟨rfl, rfl⟩
theorem sst_of {A : Option Addr} {n cap : Nat} (fv : Value) {w : World} {Q : Ending → World → Prop} (h : Calls Try.prog 47 #[.slice A n cap, .int .i64 (n : Int), fv] w fun e w' => e = .returned (.tuple #[]) ∧ Q e w') :
  Calls Try.prog 39 #[.slice A n cap, fv] w fun e w' => e = .returned (.tuple #[]) ∧ Q e w' := by
 have H := hid h
 clear h
 go_enter Try.func39, Try.ntmps39
 go_wp2_with fail
 refine H.out.mono ?_
 rintro e w1 ⟨rfl, hq⟩
 have hq := hid hq
 clear H
 go_wp2
 go_end0
 exact ⟨rfl, hq.out⟩
/-- the stable sort of an own row of indexes -/
theorem stb_row (l : List Bx) (n b o c gb g cap : Nat) (D : List Nat) {w : World} (hn : l.length = n + 1) (hq : Qb w (some ⟨b, o, none⟩) c l) (hlt : b < w.heap.size) (hbx : w.cell? ⟨gb, 0, none⟩ = some (.slice (some ⟨b, o, none⟩) (n + 1) c)) (hbg : b ≠ g) (hgg : gb ≠ g) (hgl : g < w.heap.size)
  (hDl : D.length = n + 1) (hD : ∀ i ∈ D, i < n + 1) (hc : CelZ w g 0 D) (hf : ∀ i, w.frozen? ⟨g, i, none⟩ = false) (hs : n + 1 ≤ 4096) (base : Nat) (hbase : base ≤ g) (hbw : base ≤ w.heap.size) :
  Calls Try.prog 39 #[.slice (some ⟨g, 0, none⟩) (n + 1) cap, .func (.func 40) #[] #[.pointer (some ⟨gb, 0, none⟩)]] w fun e w' => e = .returned (.tuple #[]) ∧ ∃ O : List Nat, O.Perm D ∧ SrtX l O ∧ CelZ w' g 0 O ∧ Go.RowKit.Below base w w' := by
 refine sst_of _ ?_
 have eg : ∀ args w, (callFunc 40 args).run Try.prog w = .ok (.enter 40 args) w := enters_of Try.func40 (by kernel_rfl) rfl
 have hH : Holds (encF n) w g 0 (finL n D).toArray := holds_fin hD hc hf
 have hsz : (finL n D).toArray.size = n + 1 := by simp [finL, hDl]
 have hltb : gb < w.heap.size := cell_lt hbx
 have hcmp : CmpLays1 Try.prog 40 #[.pointer (some ⟨gb, 0, none⟩)] (encF n) (cfX l n) g 0 (finL n D).toArray.size w := fun m os dk hdk x y => by
  have S : SW (encF n) w g 0 dk (sortWorld (encF n) w g 0 m dk os) := ⟨m, os, rfl⟩
  have q1 := hq.xy hn (k := x.val) x.isLt
  have q2 := hq.xy hn (k := y.val) y.isLt
  exact num1_w b o (n + 1) c gb x.val y.val _ _ x.isLt y.isLt hq.max (by have := hq.cap; omega) ((cell_sw S hgl hgg hltb).trans hbx)
   ((cell_sw S hgl hbg hlt).trans q1.1) ((cell_sw S hgl hbg hlt).trans q2.1)
 have h := stable_s (encF n) g 0 cap _ w (cfX l n) 40 #[.pointer (some ⟨gb, 0, none⟩)] (swoX l n) eg hcmp ⟨oneF n, hH, hgl⟩ (n + 1) hsz (by omega)
 refine Calls.mono h ?_
 rintro e w' ⟨rfl, d', hM⟩
 have hh := hM.sw.holds hgl hH hM.sz
 have hz : d'.size = n + 1 := by rw [hM.sz]; exact hsz
 refine ⟨rfl, d'.toList.map (·.val), ?_, ?_, cel_holds hh, below_sw hM.sw hbase hbw⟩
 ·have hp := hM.pm.2.2
  rw [show d'.extract 0 (n + 1) = d' from Array.extract_eq_self_of_le (by omega), show (finL n D).toArray.extract 0 (n + 1) = (finL n D).toArray from Array.extract_eq_self_of_le (by omega)] at hp
  have := hp.map (·.val)
  rwa [show ((finL n D).toArray.toList.map (·.val)) = D from finL_val hD] at this
 ·unfold SrtX
  rw [List.pairwise_map, List.pairwise_iff_getElem]
  intro i j hi hj hij
  have hi' : i < d'.size := by simpa using hi
  have hj' : j < d'.size := by simpa using hj
  have := hM.srt i j (by omega) hij (by omega)
  rw [ltX] at this
  simp [hi', hj'] at this
  simpa using this
end Go.Proofs.Ytjdgjhaggpahkaa
