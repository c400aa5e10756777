/- Reading order: the indexes from top to bottom. Conditions: at most 4096 boxes. -/
import Derived.Test.YtjdgjhaggpahkaaZSs5
import Derived.Test.YtjdgjhaggpahkaaZNr3
set_option linter.unusedVariables false
set_option linter.unusedSimpArgs false
namespace Go.Proofs.Ytjdgjhaggpahkaa
open Go.RowKit Go.Deep Go.Shelf Go.Lib Go.Sort
/-- a row of indexes of its own block, whose cells may be written -/
def RowZ (w : World) (base : Nat) (v : Value) (l : List Nat) : Prop :=
 (l = [] ∧ v = .slice none 0 0) ∨ ∃ g c, 0 < l.length ∧ v = .slice (some ⟨g, 0, none⟩) l.length c ∧ base ≤ g ∧ g < w.heap.size ∧ l.length ≤ c ∧ c ≤ 9223372036854775807 ∧ CelZ w g 0 l ∧ ∀ i, w.frozen? ⟨g, i, none⟩ = false
theorem OwnZ.row {w : World} {base : Nat} {v : Value} {l : List Nat} (h : OwnZ w base v l) (hb : 0 < l.length ∨ v = .slice none 0 0) : RowZ w base v l := by
 rcases h.2 with ⟨rfl, h2⟩ | ⟨g, cap, cur, rfl, hg, hh, h1, h2, r⟩
 ·exact .inl ⟨List.eq_nil_of_length_eq_zero h2, rfl⟩
 ·rcases hb with hb | hb
  ·exact .inr ⟨g, cap, hb, rfl, hg, (Array.getElem?_eq_some_iff.1 hh).1, h1, by unfold maxLen at h2; omega, OwnZ.cel (c := cap) ⟨h.1, h.2⟩, fun i => World.ownsRow.frozenAt (cap := cap) ⟨h.1, h.2⟩ i⟩
  ·cases hb
theorem RowZ.zs {w : World} {base : Nat} {v : Value} {l : List Nat} (h : RowZ w base v l) : Zs w v l := by
 rcases h with ⟨rfl, rfl⟩ | ⟨g, c, h0, rfl, h1, h2, h3, h4, h5, h6⟩
 ·exact Zs.nil w
 ·exact ⟨_, c, rfl, h3, h4, fun _ => ⟨g, 0, rfl, h2, h5⟩⟩
theorem RowZ.below {w w' : World} {base : Nat} {v : Value} {l : List Nat} (h : RowZ w base v l) (hb : Go.RowKit.Below w.heap.size w w') : RowZ w' base v l := by
 rcases h with h | ⟨g, c, h0, rfl, h1, h2, h3, h4, h5, h6⟩
 ·exact .inl h
 ·exact .inr ⟨g, c, h0, rfl, h1, Nat.lt_of_lt_of_le h2 hb.size, h3, h4, h5.below hb, fun i => (hb.frozen (p := ⟨g, i, none⟩) h2).trans (h6 i)⟩
section
variable {α : Type} [Inhabited α] {enc : α → Value}
theorem cell_sw {w W : World} {blk off : Nat} {dk : Array α} (h : SW enc w blk off dk W) (hblk : blk < w.heap.size) {b o : Nat} (hb : b ≠ blk) (hlt : b < w.heap.size) : W.cell? ⟨b, o, none⟩ = w.cell? ⟨b, o, none⟩ := by
 obtain ⟨n, os, rfl⟩ := h
 unfold sortWorld
 rw [cell?_grow _ _ _ (by rw [size_putRow]; exact hlt), cell?_putRow_other enc (Sort.ahead w n) blk off dk ⟨b, o, none⟩ (.inl hb)]
 rfl
theorem below_sw {w W : World} {blk off base : Nat} {dk : Array α} (h : SW enc w blk off dk W) (hb : base ≤ blk) (hw : base ≤ w.heap.size) : Go.RowKit.Below base w W := by
 obtain ⟨n, os, rfl⟩ := h
 refine ⟨rfl, rfl, rfl, by simp [sortWorld, grow, size_putRow, Sort.ahead], fun i hi => ?_⟩
 unfold sortWorld
 rw [heap_grow_old _ _ (by rw [size_putRow]; exact Nat.lt_of_lt_of_le hi hw)]
 simp only [putRow, mapBlock, Sort.ahead]
 rw [Array.getElem?_modify, if_neg (by omega)]
theorem frozen_sw {w W : World} {blk off : Nat} {dk : Array α} (h : SW enc w blk off dk W) {b o : Nat} (hlt : b < w.heap.size) : W.frozen? ⟨b, o, none⟩ = w.frozen? ⟨b, o, none⟩ := by
 obtain ⟨n, os, rfl⟩ := h
 unfold sortWorld
 rw [frozen?_grow _ _ _ (by rw [size_putRow]; exact hlt)]
 exact frozen?_mapBlock _ _ _ _
end
/-- indexes below n -/
def encF (n : Nat) (i : Fin (n + 1)) : Value := intV i.val
theorem oneF (n : Nat) : OneCell (encF n) := fun _ => rfl
def cfF (l : List Bx) (n : Nat) (i k : Fin (n + 1)) : Int := cfD l i.val k.val
theorem ltF (l : List Bx) (n : Nat) (i k : Fin (n + 1)) : ltOf (cfF l n) i k = abvB l i.val k.val := cfD_lt l i.val k.val
theorem swoF (l : List Bx) (n : Nat) : SWO (ltOf (cfF l n)) where
 irrefl x := by rw [ltF]; exact abv_irr l _
 trans x y z h1 h2 := by rw [ltF] at *; exact abv_trans l h1 h2
 ntrans x y z h1 h2 := by
  rw [ltF] at *
  cases h : abvB l x.val z.val
  ·rfl
  ·cases h3 : abvB l z.val y.val
   ·have := abv_tot l h2 h3
    rw [this, h] at h1; cases h1
   ·rw [abv_trans l h h3] at h1; cases h1
theorem totF (l : List Bx) (n : Nat) (x y : Fin (n + 1)) (h1 : ltOf (cfF l n) x y = false) (h2 : ltOf (cfF l n) y x = false) : x = y := by
 rw [ltF] at *
 exact Fin.ext (abv_tot l h1 h2)
/-- a list of indexes below n + 1 as such -/
def finL (n : Nat) (l : List Nat) : List (Fin (n + 1)) := l.map fun i => Fin.ofNat (n + 1) i
theorem finL_val {n : Nat} {l : List Nat} (h : ∀ i ∈ l, i < n + 1) : (finL n l).map (·.val) = l := by
 unfold finL
 rw [List.map_map]
 conv => rhs; rw [← List.map_id l]
 apply List.map_congr_left
 intro i hi
 simp [Fin.ofNat, Nat.mod_eq_of_lt (h i hi)]
theorem holds_fin {w : World} {n g : Nat} {l : List Nat} (hl : ∀ i ∈ l, i < n + 1) (hc : CelZ w g 0 l) (hf : ∀ i, w.frozen? ⟨g, i, none⟩ = false) : Holds (encF n) w g 0 (finL n l).toArray := fun j hj => by
 have hj2 : j < l.length := by simpa [finL] using hj
 refine ⟨?_, hf _⟩
 rw [hc j hj2]
 congr 1
 unfold encF
 congr 1
 have : (finL n l).toArray[j]! = Fin.ofNat (n + 1) l[j] := by simp [finL, hj2]
 rw [this]
 simp [Fin.ofNat, Nat.mod_eq_of_lt (hl _ (List.getElem_mem hj2))]
theorem cel_holds {w : World} {n g : Nat} {d : Array (Fin (n + 1))} (h : Holds (encF n) w g 0 d) : CelZ w g 0 (d.toList.map (·.val)) := fun j hj => by
 have hj2 : j < d.size := by simpa using hj
 rw [(h j hj2).1]
 congr 1
 unfold encF
 congr 1
 simp [hj2]
theorem dwn_fin (l : List Bx) (n : Nat) (hn : l.length = n + 1) : (((finL n (List.range (n + 1))).mergeSort fun x y => !ltOf (cfF l n) y x).map (·.val)) = dwnB l := by
 rw [List.map_mergeSort (s := fun i k => !abvB l k i) (fun a _ b _ => by rw [ltF]), finL_val (fun i hi => List.mem_range.1 hi)]
 unfold dwnB
 rw [hn]
end Go.Proofs.Ytjdgjhaggpahkaa
/- Reading order: downwards. Conditions: at most 4096 boxes. -/
namespace Go.Proofs.Ytjdgjhaggpahkaa
open Go.RowKit Go.Deep Go.Shelf Go.Lib Go.Sort
theorem Qb.xy {w : World} {b o n c : Nat} {l : List Bx} (h : Qb w (some ⟨b, o, none⟩) c l) (hn : l.length = n) {k : Nat} (hk : k < n) : BxAt w b (o + k * 4) (l.getD k default) := by
 obtain ⟨b', o', e, hc⟩ := h.at_ (k := k) (by omega)
 cases e
 have : l.getD k default = l[k]'(by omega) := by simp [show k < l.length by omega]
 rw [this]; exact hc
/-- the sort of an own row of all indexes -/
theorem sort_row (l : List Bx) (n b o c gb g cap : Nat) {w : World} (hn : l.length = n + 1) (hq : Qb w (some ⟨b, o, none⟩) c l) (hlt : b < w.heap.size) (hbx : w.cell? ⟨gb, 0, none⟩ = some (.slice (some ⟨b, o, none⟩) (n + 1) c)) (hbg : b ≠ g) (hgg : gb ≠ g) (hgl : g < w.heap.size)
  (hc : CelZ w g 0 (List.range (n + 1))) (hf : ∀ i, w.frozen? ⟨g, i, none⟩ = false) (hs : n + 1 ≤ 4096) (base : Nat) (hbase : base ≤ g) (hbw : base ≤ w.heap.size) :
  Calls Try.prog 42 #[.slice (some ⟨g, 0, none⟩) (n + 1) cap, .func (.func 43) #[] #[.pointer (some ⟨gb, 0, none⟩)]] w fun e w' => e = .returned (.tuple #[]) ∧ CelZ w' g 0 (dwnB l) ∧ (∀ i, w'.frozen? ⟨g, i, none⟩ = false) ∧ Go.RowKit.Below base w w' := by
 have eg : ∀ args w, (callFunc 43 args).run Try.prog w = .ok (.enter 43 args) w := enters_of Try.func43 (by kernel_rfl) rfl
 have hH : Holds (encF n) w g 0 (finL n (List.range (n + 1))).toArray := holds_fin (fun i hi => List.mem_range.1 hi) hc hf
 have hsz : (finL n (List.range (n + 1))).toArray.size = n + 1 := by simp [finL]
 have hltb : gb < w.heap.size := cell_lt hbx
 have hcmp : CmpLays1 Try.prog 43 #[.pointer (some ⟨gb, 0, none⟩)] (encF n) (cfF l n) g 0 (finL n (List.range (n + 1))).toArray.size w := fun m os dk hdk x y => by
  have S : SW (encF n) w g 0 dk (sortWorld (encF n) w g 0 m dk os) := ⟨m, os, rfl⟩
  have q1 := hq.xy hn (k := x.val) x.isLt
  have q2 := hq.xy hn (k := y.val) y.isLt
  exact dwn1_w b o (n + 1) c gb x.val y.val _ _ _ _ x.isLt y.isLt hq.max (by have := hq.cap; omega) ((cell_sw S hgl hgg hltb).trans hbx)
   ((cell_sw S hgl hbg hlt).trans q1.1) ((cell_sw S hgl hbg hlt).trans q1.2.1) ((cell_sw S hgl hbg hlt).trans q2.1) ((cell_sw S hgl hbg hlt).trans q2.2.1)
 have h := Any.slices_SortFunc_total sortInt (encF n) (oneF n) (cfF l n) (swoF l n) 43 #[.pointer (some ⟨gb, 0, none⟩)] g 0 cap _ w eg hcmp hH hgl (by omega) (totF l n)
 rw [hsz] at h
 refine Calls.mono h ?_
 rintro e w' ⟨rfl, m, os, hw⟩
 have S : SW (encF n) w g 0 _ w' := ⟨m, os, hw⟩
 have hh := S.holds hgl hH (by simp [finL])
 refine ⟨rfl, ?_, fun i => (frozen_sw S hgl).trans (hf i), below_sw S hbase hbw⟩
 have h2 := cel_holds hh
 rw [show ((List.mergeSort (finL n (List.range (n + 1))).toArray.toList fun x y => !ltOf (cfF l n) y x).toArray.toList.map (·.val)) = dwnB l from dwn_fin l n hn] at h2
 exact h2
/-- a row comes back -/
def RetRow (w : World) (q : List Nat) (e : Ending) (w' : World) : Prop := ∃ v, e = .returned v ∧ RowZ w' w.heap.size v q ∧ Go.RowKit.Below w.heap.size w w'
set_option maxRecDepth 100000 in
set_option maxHeartbeats 8000000 in
theorem GDwn_g (l : List Bx) (A : Option Addr) (c : Nat) {w : World} (hl : Qb w A c l) (h4 : l.length ≤ 4096) :
  Calls Try.prog 32 #[.slice A l.length c] w (RetRow w (dwnB l)) := by
 obtain ⟨n, hn⟩ : ∃ n, l.length = n := ⟨_, rfl⟩
 have cc := Nat.le_trans hl.cap hl.max
 rw [hn] at cc h4 ⊢
 have hl0 := hid hl
 replace hn := hid hn
 clear hl
 obtain ⟨D, hD⟩ : ∃ D, dwnB l = D := ⟨_, rfl⟩
 rw [hD]
 replace hD := hid hD
 go_enter Try.func32, Try.ntmps32
 go_upto_region 1 with fail
 refine enterR (P := fun u => Code.wp _ _ _ _ u) (c := [.slice A n c]) ?_
 intro w1 HB r0 zn0 hsz
 have c0 : w1.cell? ⟨w.heap.size, 0, none⟩ = some (.slice A n c) := r0 0 _ rfl
 have hs1 := hid (show w.heap.size + 1 = w1.heap.size from hsz.out.symm)
 clear r0 zn0 hsz
 have hO0 : OwnZ w1 w1.heap.size (.slice none 0 0) (List.range 0) := OwnZ.nil _ _
 have hb0 := Go.RowKit.Below.refl w1.heap.size w1
 go_wp2
 go_loopw [7, 3] (fun s7 s3 wr => ∃ i : Nat, s7 = .int .i64 (i : Int) ∧ i ≤ n ∧ (i = 0 → s3 = .slice none 0 0) ∧ OwnZ wr w1.heap.size s3 (List.range i) ∧ Go.RowKit.Below w1.heap.size w1 wr) (fun s7 _ _ => n - (intOf s7).toNat)
 case atStart => exact ⟨0, rfl, by omega, fun _ => rfl, hO0, hb0⟩
 case round =>
  clear hO0 hb0
  obtain ⟨i, rfl, hi, hz, hO, hb⟩ := hrel
  by_cases hin : i < n
  ·have hii : (i : Int) < (n : Int) := by omega
   have hOA := hO.below ((Go.RowKit.Below.refl _ _).alloc (Nat.le_refl _) (.cells #[.int .i64 (i : Int)] 3))
   have hBA := hb.alloc hb.size (.cells #[.int .i64 (i : Int)] 3)
   have hlr : (List.range i).length ≤ 1000000 := by simp; omega
   have hbs := hb.size
   clear hO hb
   go_upto_region 6 with (at_builtin; refine wpList_app1 rfl (.tmp 10) (.tmp 12) rfl w1.heap.size u3 (List.range i) i wr.heap.size rfl hOA rfl (at_one rfl) hlr (by simp; omega) ?_; intro s5 w5 hO5 hg5 hat5)
   have hb5 := Below.grownZ hBA hOA hg5 (by simp; omega) (Nat.le_refl _)
   rw [show List.range i ++ [i] = List.range (i + 1) by rw [List.range_succ]] at hO5
   clear hg5 hat5 hOA hBA
   go_wp2
   go_roundw
   case rel => exact ⟨i + 1, by go_num, by omega, fun h => by omega, hO5, hb5⟩
   case measure => simp [intOf]; omega
  ·obtain rfl : i = n := by omega
   have hii : ¬ (i : Int) < (i : Int) := by omega
   have hbw := bel_step HB hb
   rcases Nat.eq_zero_or_pos i with h0 | h0
   ·subst h0
    obtain rfl := hz rfl
    have hD0 : D = [] := by
     rw [← hD.out]
     exact List.eq_nil_of_length_eq_zero (by rw [dwnB_len]; exact hn.out)
    subst hD0
    have L0 : SlLaysF0.n6 Try.prog sortInt_ren := { sortInt with }
    have hC := hid fun (fv : Value) (W : World) => (show Calls Try.prog 42 #[.slice none 0 0, fv] W fun e w' => e = .returned (.tuple #[]) ∧ w' = W from AnyF.slices_SortFunc_none L0 none 0 fv W)
    clear hO hb L0 hz
    go_wp2_with fail
    refine (hC.out _ _).mono ?_
    rintro e w2 ⟨rfl, rfl⟩
    clear hC
    go_wp2
    go_ret
    exact ⟨_, rfl, .inl ⟨rfl, rfl⟩, hbw⟩
   ·obtain ⟨m, hm⟩ : ∃ m, m + 1 = i := ⟨i - 1, by omega⟩
    obtain ⟨b, o, hA⟩ : ∃ b o, A = some ⟨b, o, none⟩ := by
     obtain ⟨b, o, hA, _⟩ := hl0.out.at_ (k := 0) (by have := hn.out; omega)
     exact ⟨b, o, hA⟩
    subst hA
    have hq := hl0.out.below hbw
    rcases hO.2 with ⟨_, h⟩ | ⟨g, cap, cur, e, hg, hh, hc1, hc2, hc3⟩
    ·simp at h; omega
    ·subst e
     rw [List.length_range] at hc1 ⊢
     have hbl : b < w.heap.size := by
      obtain ⟨b', o', e, h1, _⟩ := hl0.out.rd (by have := hn.out; omega)
      cases e; exact h1
     have hgw : w.heap.size < g := by have := hs1.out; omega
     have hC := hid (sort_row l m b o c w.heap.size g cap (w := wr) (by rw [hm]; exact hn.out) hq (Nat.lt_of_lt_of_le hbl hbw.size) ((keep_cell hb c0).trans (by rw [hm])) (by omega) (by omega) (Array.getElem?_eq_some_iff.1 hh).1
      (by rw [hm]; exact OwnZ.cel (c := cap) ⟨hO.1, hO.2⟩) (fun i => World.ownsRow.frozenAt (cap := cap) ⟨hO.1, hO.2⟩ i) (by omega) w.heap.size (by omega) hbw.size)
     rw [hm, hD.out] at hC
     have hgl := (Array.getElem?_eq_some_iff.1 hh).1
     have hDl := hid (show D.length = i from by rw [← hD.out, dwnB_len]; exact hn.out)
     have hcm : cap ≤ 9223372036854775807 := by unfold maxLen at hc2; omega
     clear hO hb hq hh hc2 hc3 hz hm
     go_wp2_with fail
     refine hC.out.mono ?_
     rintro e w2 ⟨rfl, hcel, hfz, hb2⟩
     have hb3 := hid (hbw.trans hb2)
     have hs3 := hb2.size
     have hrow : RowZ w2 w.heap.size (.slice (some ⟨g, 0, none⟩) i cap) D := .inr ⟨g, cap, by rw [hDl.out]; exact h0, by rw [hDl.out], Nat.le_of_lt hgw, by omega, by rw [hDl.out]; exact hc1, hcm, hcel, hfz⟩
     replace hrow := hid hrow
     clear hC hcel hfz hbw hb2
     go_wp2
     go_ret
     exact ⟨_, rfl, hrow.out, hb3.out⟩
end Go.Proofs.Ytjdgjhaggpahkaa
