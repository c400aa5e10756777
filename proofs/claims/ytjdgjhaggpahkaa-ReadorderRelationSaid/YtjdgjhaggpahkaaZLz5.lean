/- Reading order: joined of the statements. Conditions: no list is empty, at most 1000000 elements. -/
import Derived.Test.YtjdgjhaggpahkaaZLz4
set_option linter.unusedVariables false
set_option linter.unusedSimpArgs false
namespace Go.Proofs.Ytjdgjhaggpahkaa
open Go.RowKit Go.Deep
theorem Zs.cel {w : World} {v : Value} {l : List Nat} (h : Zs w v l) (h0 : 0 < l.length) : ∃ g o c, v = .slice (some ⟨g, o, none⟩) l.length c ∧ CelZ w g o l := by
 obtain ⟨A, c, e, _, _, h3⟩ := h.ex
 obtain ⟨g, o, e2, _, h5⟩ := h3 h0
 subst e2
 exact ⟨g, o, c, e, h5⟩
theorem flat_tk {L : List (List Nat)} {i : Nat} (h : i < L.length) : (L.take (i + 1)).flatten = (L.take i).flatten ++ L[i] := by
 rw [List.take_succ_eq_append_getElem h, List.flatten_append]
 simp
theorem flat_tl {L : List (List Nat)} {i : Nat} (h : i < L.length) : (L.take i).flatten.length + L[i].length ≤ L.flatten.length := by
 have : L.flatten = (L.take (i + 1)).flatten ++ (L.drop (i + 1)).flatten := by rw [← List.flatten_append, List.take_append_drop]
 rw [this, flat_tk h]
 simp only [List.length_append]
 omega
def RetZs (w : World) (l : List Nat) (e : Ending) (w' : World) : Prop := ∃ v, e = .returned v ∧ Zs w' v l ∧ Below w.heap.size w w'
set_option maxHeartbeats 4000000 in
theorem Ljoined_g (L : List (List Nat)) (v : Value) {w : World} (hv : Zls w v L) (hne : ∀ C ∈ L, C ≠ []) (h4 : L.flatten.length ≤ 1000000) : Calls Try.prog 23 #[v] w (RetZs w L.flatten) := by
 obtain ⟨A, c, rfl, hc1, hc2⟩ := hv.form
 obtain ⟨n, hn⟩ : ∃ n, L.length = n := ⟨_, rfl⟩
 have hM := hid fun (j : Nat) (hj : j < L.length) (W : World) (hb : Below w.heap.size w W) => (show ∃ g o, A = some ⟨g, o, none⟩ ∧ ∃ gx ox cx, W.cell? ⟨g, o + j, none⟩ = some (.slice (some ⟨gx, ox, none⟩) L[j].length cx) ∧ CelZ W gx ox L[j] from by
  obtain ⟨g, o, u, e, hc, hz⟩ := (hv.below hb).at_ (j := j) hj
  obtain ⟨gx, ox, cx, e2, hz2⟩ := hz.cel (List.length_pos_iff.2 (hne _ (List.getElem_mem hj)))
  subst e2
  exact ⟨g, o, e, gx, ox, cx, hc, hz2⟩)
 have hfl := hid fun (i : Nat) (h : i < L.length) => flat_tk h
 have hfn := hid fun (i : Nat) (h : i < L.length) => flat_tl h
 have HB := Below.refl w.heap.size w
 have hO0 : OwnZ w w.heap.size (.slice none 0 0) (L.take 0).flatten := OwnZ.nil w _
 have hend := hid (show (L.take n).flatten = L.flatten by rw [← hn, List.take_length])
 generalize L.flatten = F at *
 rw [hn] at hc1 ⊢
 replace hn := hid hn
 replace h4 := hid h4
 clear hv hne
 go_enter Try.func23, Try.ntmps23
 go_wp2
 go_loopw [8, 3] (fun s8 s3 wr => ∃ i : Nat, s8 = .int .i64 (i : Int) ∧ i ≤ n ∧ OwnZ wr w.heap.size s3 (L.take i).flatten ∧ Below w.heap.size w wr) (fun s8 _ _ => n - (intOf s8).toNat)
 case atStart => exact ⟨0, rfl, by omega, hO0, HB⟩
 case round =>
  clear HB hO0
  obtain ⟨i, rfl, hi, hO, HB⟩ := hrel
  by_cases hin : i < n
  ·have hii : (i : Int) < (n : Int) := by omega
   have hil : i < L.length := by have := hn.out; omega
   obtain ⟨g, o, hA, gx, ox, cx, co, hcx⟩ := hM.out i hil wr HB
   subst hA
   have hst := hid (hfl.out i hil)
   have hln := hfn.out i hil
   have h1 : (L.take i).flatten.length ≤ 1000000 := by have := h4.out; omega
   have h2 : L[i].length ≤ 1000000 := by have := h4.out; omega
   generalize L[i] = C at *
   obtain ⟨T, hT⟩ : ∃ T, (L.take i).flatten = T := ⟨_, rfl⟩
   rw [hT] at hO h1 hst hln
   have hsz := HB.size
   clear hT hM hfl hfn hln
   go_wp2_with (at_builtin; go_loud (refine wpList_appZ rfl (.tmp 12) (.tmp 13) rfl w.heap.size u3 T C gx ox cx rfl hO rfl hcx h1 h2 hsz ?_); intro v5 w5 hO5 hg5 hat5)
   have hb5 := hid (Below.grownZ HB hO hg5 hsz (Nat.le_refl _))
   rw [← hst.out] at hO5
   replace hO5 := hid hO5
   clear hg5 hat5 hO HB hcx co hst
   go_roundw
   case rel => exact ⟨i + 1, by go_num, by omega, hO5.out, hb5.out⟩
   case measure => simp [intOf]; omega
  ·obtain rfl : i = n := by omega
   have hii : ¬ (i : Int) < (i : Int) := by omega
   rw [hend.out] at hO
   have hz := hid hO.zs
   clear hM hfl hfn hO
   go_wp2
   go_ret
   exact ⟨_, rfl, hz.out, HB⟩
end Go.Proofs.Ytjdgjhaggpahkaa
