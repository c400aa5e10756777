/- Integers: the walk of Digits. Conditions: none. -/
import Derived.Test.YtkfpcohdbbhmaaaDoorBi23
import Derived.Test.YtkfpcohdbbhmaaaDoorNtA
import Derived.Test.YtkfpcohdbbhmaaaDoorSh1
import Derived.Laws.IdiomCopy
import Derived.Lib.EndianMore
set_option linter.unusedVariables false
set_option linter.unusedSimpArgs false
namespace Go.Proofs.YtkfpcohdbbhmaaaDoor
open Go.RowKit Big

def dg (n : Nat) : Value := .int .i64 (n : Int)
theorem infoI : (Tryd.prog.info? 3).map (fun i => (i.zero, i.size, i.bytes)) = some (some (.int .i64 0), 1, 8) := by kernel_rfl

/-- a list handed back beside an error number -/
def RetIL (w : World) (xs : List Nat) (err : Int) (e : Ending) (w' : World) : Prop :=
  ∃ A c, e = .returned (.tuple #[.slice A xs.length c, .int .i64 err]) ∧ Rd dg w' A xs ∧ Below w.heap.size w w'

theorem Mg.grown {w w' : World} {A : Option Addr} {c : Nat} {xs : List Nat} {row : Option Nat} (h : Mg w A c xs) (hg : w.grownBy w' row) (hne : 0 < xs.length → ∀ p, A = some p → some p.block ≠ row) : Mg w' A c xs :=
  ⟨h.cap, h.max, h.ok, fun hl => by
    obtain ⟨b, o, e, hB, hc⟩ := h.rd hl
    exact ⟨b, o, e, Nat.lt_of_lt_of_le hB hg.size, fun j hj => (World.cell?_of_block (a := ⟨b, o + j, none⟩) (hg.block b hB (hne hl _ e))).trans (hc j hj)⟩⟩

theorem rd_one {α : Type} (f : α → Value) (w : World) (x : α) (t : TypeId) : Rd f (w.alloc (.cells #[f x] t)) (some ⟨w.heap.size, 0, none⟩) [x] :=
  Rd.of_blk (heap_alloc_new _ _) (fun j hj => by match j, hj with | 0, _ => rfl)

/-- slices.Reverse of a list that the call owns -/
theorem rev_own {w : World} {base : Nat} {v : Value} {xs : List Nat} (h : w.ownsRow base 3 1 v xs.length (xs.map dg)) (hb : base ≤ w.heap.size) (hl : xs.length ≤ 1073741824) :
    ∃ A c, v = .slice A xs.length c ∧ Calls Tryd.prog 80 #[v] w fun e w' => e = .returned (.tuple #[]) ∧ Rd dg w' A xs.reverse ∧ Below base w w' := by
  rcases h.2 with ⟨rfl, h0⟩ | ⟨g, cap, cur, rfl, hbg, hg, hnc, hm, hcs, htake⟩
  · have : xs = [] := List.eq_nil_of_length_eq_zero h0
    subst this
    exact ⟨none, 0, rfl, (Tryd.slices_Reverse_int_empty none 0 w).mono fun e w' ⟨h1, h2⟩ => ⟨h1, by simp; exact Rd.nil _ _, by rw [h2]; exact Below.refl _ _⟩⟩
  · refine ⟨_, cap, rfl, ?_⟩
    have hc : ∀ j, j < xs.length → w.cell? ⟨g, j, none⟩ = some (dg xs[j]!) := fun j hj => by
      rw [cell_of_row w g j _ _ _ hg]
      have : (cur.toList.take (xs.length * 1))[j]? = (xs.map dg)[j]? := by rw [htake]
      rw [List.getElem?_take, if_pos (by omega)] at this
      simpa [hj] using this
    have hgl := (Array.getElem?_eq_some_iff.1 hg).1
    refine (Tryd.slices_Reverse_int_cells g 0 xs.length cap (xs.map fun n : Nat => (n : Int)) w (by simp) (by omega) (fun j hj => ?_) (fun j hj => by rw [Nat.zero_add]; exact frozen_of_row w g j _ _ hg)).mono fun e w' ⟨h1, q, h2⟩ => ⟨h1, ?_, ?_⟩
    · simp only [List.length_map] at hj
      rw [Nat.zero_add, hc j hj]
      simp [dg, hj, List.getElem?_eq_getElem hj]
    · intro hpos
      have e1 : ((xs.map fun n : Nat => (n : Int)).take xs.length).reverse.map (Value.int .i64) = xs.reverse.map dg := by
        rw [List.take_of_length_le (by simp), ← List.map_reverse, List.map_map]; rfl
      rw [e1] at h2
      refine ⟨g, 0, rfl, ?_, fun j hj => ?_⟩
      · rw [h2]
        exact Nat.lt_of_lt_of_le hgl (Lib.below_setCells_w (B := 0) (g := g) (by omega) _ _ (w.drewN q)).size
      · rw [h2]
        rw [World.cell?_setCells_in g (xs.reverse.map dg) 0 (w.drewN q) (fun j hj => by
          simp only [List.length_map, List.length_reverse] at hj
          show (w.cell? _).isSome = true
          rw [Nat.zero_add, hc j hj]; rfl) j (by simpa using hj)]
        simp
    · rw [h2]
      exact (below_drewN (Below.refl _ _) q).trans ((Lib.below_setCells_w (B := base) (g := g) hbg _ _ (w.drewN q)))

theorem rev_own' {w : World} {base : Nat} {A : Option Addr} {c : Nat} {xs : List Nat} (h : w.ownsRow base 3 1 (.slice A xs.length c) xs.length (xs.map dg)) (hb : base ≤ w.heap.size) (hl : xs.length ≤ 1073741824) :
    Calls Tryd.prog 80 #[.slice A xs.length c] w fun e w' => e = .returned (.tuple #[]) ∧ Rd dg w' A xs.reverse ∧ Below base w w' := by
  obtain ⟨A', c', e, h2⟩ := rev_own h hb hl
  injection e with e1 e2 e3
  subst e1
  exact h2

theorem own_ne {w : World} {base : Nat} {e : TypeId} {v : Value} {n : Nat} {xs : List Value} (h : w.ownsRow base e 1 v n xs) {g : Nat} (hg : w.heap.size ≤ g) : some g ≠ v.ownBlock := fun e => by
  have := (h.lt g e.symm).2; omega

/-- what Digits answers -/
def dgE (b n : Nat) : List Nat × Int := if n = 0 then ([0], 0) else if (digs b n).length ≤ 4096 then ((digs b n).reverse, 0) else ([], 4)

set_option maxRecDepth 100000 in
set_option maxHeartbeats 1000000 in
theorem Digits_ok (n b : Nat) (A : Option Addr) (c : Nat) (w : World) (ha : Mg w A c (limbs n)) (hf : (limbs n).length ≤ 512) (h2 : 2 ≤ b) (hb : b ≤ 65536) :
    Calls Tryd.prog 35 #[.agg #[.bool false, .slice A (limbs n).length c], .int .i64 b] w (RetIL w (dgE b n).1 (dgE b n).2) := by
  have HX := hid fun (w1 : World) (h1 : Below w.heap.size w w1) => by
    have h := Valid_t (z := (n : Int)) (ha.below h1) hf
    rw [show decide ((n : Int) < 0) = false by simp, Int.natAbs_natCast] at h
    exact h
  have HD := hid fun (w1 : World) (A1 : Option Addr) (c1 m : Nat) (h1 : Mg w1 A1 c1 (limbs m)) (hl : (limbs m).length ≤ 512) => by
    have h := divideSmall_fr A1 c1 (limbs m) b w1 h1 (by omega) (by omega) (by omega)
    rw [val_limbs] at h
    exact h
  by_cases h0 : n = 0
  · subst h0
    rw [show dgE b 0 = ([0], 0) by simp [dgE]]
    rw [limbs_zero] at *
    clear ha hf HD
    go_enter Tryd.func35, Tryd.ntmps35
    go_wp2_with fail
    refine (HX.out _ (by repeat (first | assumption | exact Below.refl _ _ | refine Below.alloc ?_ (by simp; try omega) _ | refine Below.drew ?_ | refine below_drewN ?_ _))).mono ?_
    rintro e w1 ⟨rfl, h1⟩
    obtain ⟨p1, p2, p3⟩ := box_keep h1
    have b1 : Below w.heap.size w w1 := Below.trans (b := _) (by repeat (first | assumption | exact Below.refl _ _ | refine Below.alloc ?_ (by simp; try omega) _ | refine Below.drew ?_ | refine below_drewN ?_ _)) (h1.mono (by simp))
    go_wp2
    go_ret2
    exact ⟨_, 1, rfl, rd_one dg w1 0 _, b1.alloc b1.size _⟩
  · have hl0 : 0 < (limbs n).length := by rw [limbs_pos h0]; simp
    have hz0 : (((limbs n).length : Int) == 0) = false := by rw [beq_eq_false_iff_ne]; omega
    have H1 := hid (show dgE b n = if (digs b n).length ≤ 4096 then ((digs b n).reverse, 0) else ([], 4) by simp [dgE, h0])
    generalize hR : dgE b n = RR at *
    clear hR
    go_enter Tryd.func35, Tryd.ntmps35
    go_wp2_with fail
    refine (HX.out _ (by repeat (first | assumption | exact Below.refl _ _ | refine Below.alloc ?_ (by simp; try omega) _ | refine Below.drew ?_ | refine below_drewN ?_ _))).mono ?_
    rintro e w1 ⟨rfl, h1⟩
    obtain ⟨p1, p2, p3⟩ := box_keep h1
    have b1 : Below w.heap.size w w1 := Below.trans (b := _) (by repeat (first | assumption | exact Below.refl _ _ | refine Below.alloc ?_ (by simp; try omega) _ | refine Below.drew ?_ | refine below_drewN ?_ _)) (h1.mono (by simp))
    have ha1 := ha.below b1
    clear HX ha
    go_wp2_with fail
    go_loopg [6, 7] n (fun g s6 s7 wr => ∃ (v : Value) (L : List Nat) (R : Option Addr) (cc m : Nat), s6 = v ∧ wr.ownsRow w1.heap.size 3 1 v L.length (L.map dg) ∧ s7 = .slice R (limbs m).length cc ∧ Mg wr R cc (limbs m) ∧ (limbs m).length ≤ 512 ∧ L.length ≤ 4096 ∧ Below w1.heap.size w1 wr ∧ Hid (g = m) ∧ Hid (digs b n = L ++ digs b m) ∧ Hid (0 < (limbs m).length → ∀ p, R = some p → some p.block ≠ v.ownBlock))
    case atStart => exact ⟨_, [], A, c, n, rfl, World.ownsRow_nil _ _ _ _, rfl, ha1, hf, by simp, Below.refl _ _, rfl, rfl, fun _ p _ => by simp [Value.ownBlock]⟩
    case round =>
      clear ha1 hl0 h0
      obtain ⟨v, L, R, cc, m, rfl, hown, rfl, hr, hl, hL, hbl, hg, hd, hne⟩ := hrel
      obtain ⟨Av, cv, rfl, hcv, hcm, hrd⟩ := own_rd hown
      obtain ⟨q1, q2, q3⟩ := box_keep (h1.trans (hbl.mono h1.size))
      have hb2 := b1.trans (hbl.mono b1.size)
      have hsz1 := hbl.size
      by_cases hm : m = 0
      · subst hm
        rw [limbs_zero] at *
        have hLn : Hid (digs b n = L) := by have := hd.out; rw [digs_zero, List.append_nil] at this; exact this
        have HRV := rev_own' hown (by omega) (by omega)
        have HRV := hid HRV
        go_wp2_with (go_at_call 80; refine HRV.out.mono ?_; rintro e w5 ⟨rfl, hr5, h5⟩)
        go_ret2
        have hRR : RR = (L.reverse, 0) := by rw [H1.out, hLn.out, if_pos hL]
        rw [hRR]
        exact ⟨Av, cv, by rw [List.length_reverse]; rfl, hr5, hb2.trans (h5.mono (by omega))⟩
      · have hl1 : 0 < (limbs m).length := by rw [limbs_pos hm]; simp
        have hdm := digs_pos h2 hm
        by_cases h4 : L.length = 4096
        · have hRR : RR = ([], 4) := by
            rw [H1.out, if_neg]
            rw [hd.out, hdm]
            simp
            omega
          clear hg hd hne hdm H1
          go_wp2
          go_ret2
          rw [hRR]
          exact ⟨none, 0, rfl, Rd.nil _ _, hb2⟩
        · have HC := HD.out wr R cc m hr hl
          have hmod := Nat.mod_lt m (show 0 < b by omega)
          have hdl := Nat.div_le_self m b
          have hdlt := Nat.div_lt_self (show 0 < m by omega) (show 1 < b by omega)
          have hql := Nat.le_trans (limbs_mono hdl) hl
          have HH := hid hdm
          clear hdm HD
          generalize m % b = r at *
          generalize m / b = q at *
          have HC := hid HC
          go_wp2_with (first | (go_at_call 67; refine HC.out.mono ?_; rintro e w3 ⟨c3, rfl, hr3, h3⟩; have hown3 := own_below (own_below hown h3) ((Below.refl _ _).alloc (Nat.le_refl _) (.cells #[.int .i64 (r : Int)] 3)); have hsz3 := h3.size) | (at_builtin; refine wpList_app rfl (.tmp 44) (.tmp 47) 42 rfl 3 (.int .i64 0) 8 Tryd.underlying42 infoI rfl w1.heap.size dg (fun _ => rfl) _ L rfl hown3 _ 1 [r] rfl (rd_one dg w3 r 3) (by simp; omega) (by simp; omega) (by simp; omega) ?_; intro v5 w5 hown5 hgr hwh))
          have hne1 := own_ne hown (Nat.le_refl wr.heap.size)
          have hb5 := below_app hown3 hgr (by simp; omega)
          go_roundg q
          case rel => exact ⟨v5, L ++ [r], some ⟨wr.heap.size, 0, none⟩, c3, q, rfl, hown5, rfl, (hr3.below ((Below.refl _ _).alloc (Nat.le_refl _) _)).grown hgr (fun _ p hp => by injection hp with hp; subst hp; exact hne1), hql, by simp; omega, (hbl.trans ((h3.mono hbl.size).alloc (by omega) _)).trans hb5, rfl, by unfold Hid; rw [hd.out, HH.out]; simp, fun _ p hp => by
            injection hp with hp
            subst hp
            rcases hwh with h | h
            · rw [h]; exact hne1
            · rw [h]; simp; omega⟩
          case measure => rw [hg.out]; exact hdlt

theorem Digits_bad1 (na : Bool) (xs : List Nat) (b : Int) (A : Option Addr) (c : Nat) (w : World) (ha : Mg w A c xs) (h : validB na xs = false) :
    Calls Tryd.prog 35 #[.agg #[.bool na, .slice A xs.length c], .int .i64 b] w (RetIL w [] 1) := by
  have HX := hid fun (w1 : World) (h1 : Below w.heap.size w w1) => Valid_f (ha.below h1) h
  clear ha h
  generalize xs.length = lx at *
  go_enter Tryd.func35, Tryd.ntmps35
  go_wp2_with fail
  refine (HX.out _ (by repeat (first | assumption | exact Below.refl _ _ | refine Below.alloc ?_ (by simp; try omega) _ | refine Below.drew ?_ | refine below_drewN ?_ _))).mono ?_
  rintro e w1 ⟨rfl, h1⟩
  have b1 : Below w.heap.size w w1 := Below.trans (b := _) (by repeat (first | assumption | exact Below.refl _ _ | refine Below.alloc ?_ (by simp; try omega) _ | refine Below.drew ?_ | refine below_drewN ?_ _)) (h1.mono (by simp))
  go_wp2
  go_ret2
  exact ⟨none, 0, rfl, Rd.nil _ _, b1⟩

theorem Digits_bad2 (x : Int) (b : Int) (A : Option Addr) (c : Nat) (w : World) (ha : Mg w A c (limbs x.natAbs)) (fx : fits x) (h : x < 0 ∨ b < 2 ∨ 65536 < b) :
    Calls Tryd.prog 35 #[.agg #[.bool (decide ((x) < 0)), .slice A (limbs (Int.natAbs (x))).length c], .int .i64 b] w (RetIL w [] 1) := by
  have HX := hid fun (w1 : World) (h1 : Below w.heap.size w w1) => Valid_t (ha.below h1) fx
  by_cases hx : x < 0
  · have ex : decide (x < 0) = true := by simpa using hx
    rw [ex] at HX ⊢
    clear ha fx ex hx h
    generalize (limbs x.natAbs).length = lx at *
    go_enter Tryd.func35, Tryd.ntmps35
    go_wp2_with fail
    refine (HX.out _ (by repeat (first | assumption | exact Below.refl _ _ | refine Below.alloc ?_ (by simp; try omega) _ | refine Below.drew ?_ | refine below_drewN ?_ _))).mono ?_
    rintro e w1 ⟨rfl, h1⟩
    obtain ⟨p1, p2, p3⟩ := box_keep h1
    have b1 : Below w.heap.size w w1 := Below.trans (b := _) (by repeat (first | assumption | exact Below.refl _ _ | refine Below.alloc ?_ (by simp; try omega) _ | refine Below.drew ?_ | refine below_drewN ?_ _)) (h1.mono (by simp))
    go_wp2
    go_ret2
    exact ⟨none, 0, rfl, Rd.nil _ _, b1⟩
  · have ex : decide (x < 0) = false := by simpa using hx
    have hb : b < 2 ∨ 65536 < b := by omega
    rw [ex] at HX ⊢
    clear ha fx ex hx h
    generalize (limbs x.natAbs).length = lx at *
    rcases hb with hb | hb
    all_goals
      go_enter Tryd.func35, Tryd.ntmps35
      go_wp2_with fail
      refine (HX.out _ (by repeat (first | assumption | exact Below.refl _ _ | refine Below.alloc ?_ (by simp; try omega) _ | refine Below.drew ?_ | refine below_drewN ?_ _))).mono ?_
      rintro e w1 ⟨rfl, h1⟩
      obtain ⟨p1, p2, p3⟩ := box_keep h1
      have b1 : Below w.heap.size w w1 := Below.trans (b := _) (by repeat (first | assumption | exact Below.refl _ _ | refine Below.alloc ?_ (by simp; try omega) _ | refine Below.drew ?_ | refine below_drewN ?_ _)) (h1.mono (by simp))
      go_wp2
      go_ret2
      exact ⟨none, 0, rfl, Rd.nil _ _, b1⟩

end Go.Proofs.YtkfpcohdbbhmaaaDoor
