/- Reading order: lists of the reference, lists of the statements. Conditions: at most 4096 lists. -/
import Derived.Test.YtjdgjhaggpahkaaZRx1
set_option linter.unusedVariables false
set_option linter.unusedSimpArgs false
namespace Go.Proofs.Ytjdgjhaggpahkaa
open Go.RowKit Go.Deep
theorem infoGr : (Try.prog.info? 56).map (fun i => (i.zero, i.size, i.bytes)) = some (some (.agg #[.slice none 0 0]), 1, 24) := by kernel_rfl
theorem Zls.us {w : World} {A : Option Addr} {n c : Nat} {L : List (List Nat)} (h : Zls w (.slice A n c) L) : ∃ us : List Value, us.length = L.length ∧ ∀ j (h1 : j < us.length) (h2 : j < L.length), Zs w us[j] L[j] ∧ ∃ g o, A = some ⟨g, o, none⟩ ∧ w.cell? ⟨g, o + j, none⟩ = some us[j] := by
 have hh : ∀ j : Fin L.length, ∃ u, Zs w u L[j.val] ∧ ∃ g o, A = some ⟨g, o, none⟩ ∧ w.cell? ⟨g, o + j.val, none⟩ = some u := fun j => by
  obtain ⟨g, o, u, e, hu, hz⟩ := h.at_ j.isLt
  exact ⟨u, hz, g, o, e, hu⟩
 refine ⟨List.ofFn fun j : Fin L.length => Classical.choose (hh j), by simp, fun j h1 h2 => ?_⟩
 simp only [List.getElem_ofFn]
 exact Classical.choose_spec (hh ⟨j, h2⟩)
/-- a row of lists that the call owns, whose lists are not its own -/
theorem own_below {w w' : World} {B : Nat} {e : TypeId} {size n : Nat} {v : Value} {xs : List Value} (h : w.ownsRow B e size v n xs) (hb : Below w.heap.size w w') : w'.ownsRow B e size v n xs := by
 refine ⟨h.1, ?_⟩
 rcases h.2 with h2 | ⟨g, cap, cur, hv, hg, hh, r⟩
 ·exact .inl h2
 ·exact .inr ⟨g, cap, cur, hv, hg, (hb.block g (Array.getElem?_eq_some_iff.1 hh).1).trans hh, r⟩
theorem zls_row {w : World} {B : Nat} {e : TypeId} {v : Value} {us : List Value} {L : List (List Nat)} (h : w.ownsRow B e 1 v us.length us) (hl : us.length = L.length) (hz : ∀ j (h1 : j < us.length) (h2 : j < L.length), Zs w us[j] L[j]) : Zls w v L := by
 rcases h.2 with ⟨rfl, h2⟩ | ⟨g, cap, cur, rfl, hg, hh, h1, h2, _, r⟩
 ·obtain rfl : L = [] := List.eq_nil_of_length_eq_zero (by rw [← hl]; exact h2)
  exact Zls.nil w
 ·refine ⟨_, cap, by rw [hl], by rw [← hl]; exact h1, by unfold maxLen at h2; omega, fun _ => ⟨g, 0, rfl, (Array.getElem?_eq_some_iff.1 hh).1, fun j hj => ?_⟩⟩
  have hj' : j < us.length := by rw [hl]; exact hj
  refine ⟨us[j], ?_, hz j hj' hj⟩
  rw [Nat.zero_add, World.ownsRow.cellAt (cap := cap) ⟨h.1, h.2⟩ j (by omega)]
  simp [hj']
def RetLs (w : World) (L : List (List Nat)) (e : Ending) (w' : World) : Prop := ∃ v, e = .returned v ∧ Zls w' v L ∧ Below w.heap.size w w'
set_option maxHeartbeats 4000000 in
theorem Rlists_g (L : List (List Nat)) (v : Value) {w : World} (hv : Zls w v L) (h4 : L.length ≤ 5000) : Calls Try.prog 36 #[v] w (RetLs w L) := by
 obtain ⟨A, c, rfl, hc1, hc2⟩ := hv.form
 obtain ⟨us, hul, hu⟩ := hv.us
 obtain ⟨n, hn⟩ : ∃ n, L.length = n := ⟨_, rfl⟩
 have hM := hid fun (j : Nat) (hj : j < us.length) (W : World) (hb : Below w.heap.size w W) => (show ∃ g o, A = some ⟨g, o, none⟩ ∧ W.cell? ⟨g, o + j, none⟩ = some us[j] ∧ ∃ Au nu cu, us[j] = .slice Au nu cu from by
  obtain ⟨hz, g, o, e, hc⟩ := hu j hj (hul ▸ hj)
  obtain ⟨_, _, e2, _⟩ := hz.form
  exact ⟨g, o, e, keep_cell hb hc, _, _, _, e2⟩)
 have hfin := hid fun (W : World) (v' : Value) (hb : Below w.heap.size w W) (h : W.ownsRow w.heap.size 25 1 v' us.length us) => (show RetLs w L (.returned v') W from
  ⟨v', rfl, zls_row h hul (fun j h1 h2 => (hu j h1 h2).1.below hb), hb⟩)
 rw [hn] at hc1 hul h4 ⊢
 have HB := Below.refl w.heap.size w
 have hO0 : w.ownsRow w.heap.size 25 1 (.slice none 0 0) (us.take 0).length (us.take 0) := World.ownsRow_nil _ _ _ _
 replace hul := hid hul
 clear hv hu
 go_enter Try.func36, Try.ntmps36
 go_wp2
 go_loopw [4, 3] (fun s4 s3 wr => ∃ i : Nat, s4 = .int .i64 (i : Int) ∧ i ≤ n ∧ wr.ownsRow w.heap.size 25 1 s3 (us.take i).length (us.take i) ∧ Below w.heap.size w wr) (fun s4 _ _ => n - (intOf s4).toNat)
 case atStart => exact ⟨0, rfl, by omega, hO0, HB⟩
 case round =>
  clear HB hO0
  obtain ⟨i, rfl, hi, hO, HB⟩ := hrel
  by_cases hin : i < n
  ·have hii : (i : Int) < (n : Int) := by omega
   have hil : i < us.length := by have := hul.out; omega
   obtain ⟨g, o, hA, co, Au, nu, cu, hu⟩ := hM.out i hil wr HB
   subst hA
   have hst := hid (List.take_succ_eq_append_getElem hil)
   rw [hu] at co hst
   have hOx := own_below hO ((Below.refl _ _).alloc (Nat.le_refl _) (.cells #[.slice Au nu cu] 25))
   have hbx := HB.alloc HB.size (.cells #[.slice Au nu cu] 25)
   have hlt : (us.take i).length ≤ 1000000 := by simp; omega
   have hsz := HB.size
   have htl := hid (show (us.take i).length + 1 = (us.take (i + 1)).length from by simp; omega)
   clear hO hu hM HB
   go_wp2_with (at_builtin; go_loud (refine wpList_appV rfl (.tmp 11) (.tmp 17) 33 25 (.slice none 0 0) 24 (by omega) rfl Try.underlying33 infoLs rfl w.heap.size u3 (us.take i) (.slice Au nu cu) wr.heap.size rfl hOx rfl (at_one rfl) rfl hlt (by simp; omega) ?_); intro v5 w5 hO5 hg5 hat5)
   have hb5 := hid (Below.grown hbx hg5 (by simp; omega) (fun b e => (World.ownsRow.lt hOx b e).1))
   rw [htl.out, ← hst.out] at hO5
   replace hO5 := hid hO5
   clear hg5 hat5 hOx hbx
   go_roundw
   case rel => exact ⟨i + 1, by go_num, by omega, hO5.out, hb5.out⟩
   case measure => simp [intOf]; omega
  ·obtain rfl : i = n := by omega
   have hii : ¬ (i : Int) < (i : Int) := by omega
   rw [List.take_of_length_le (by have := hul.out; omega)] at hO
   have hres := hid (hfin.out wr u3 HB hO)
   clear hM hO hfin
   go_wp2
   go_ret
   exact hres.out
end Go.Proofs.Ytjdgjhaggpahkaa
