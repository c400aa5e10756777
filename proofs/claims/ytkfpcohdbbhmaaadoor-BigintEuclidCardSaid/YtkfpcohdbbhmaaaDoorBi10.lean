/- Magnitudes: the walk of divide. Conditions: none. -/
import Derived.Test.YtkfpcohdbbhmaaaDoorBi9
namespace Go.Proofs.YtkfpcohdbbhmaaaDoor
set_option linter.unusedVariables false
set_option linter.unusedSimpArgs false
open Go.RowKit Big

def RetQR (w : World) (q r : Nat) (e : Ending) (w' : World) : Prop :=
  ∃ A c B d, e = .returned (.tuple #[.slice A (limbs q).length c, .slice B (limbs r).length d]) ∧ Mg w' A c (limbs q) ∧ Mg w' B d (limbs r) ∧ Below w.heap.size w w'

theorem compare_lt (A B : Option Addr) (c d : Nat) (xs ys : List Nat) (w : World) (ha : Mg w A c xs) (hb : Mg w B d ys) (na : Nrm xs) (nb : Nrm ys) (h : val xs < val ys) :
    Calls Tryd.prog 82 #[.slice A xs.length c, .slice B ys.length d] w fun e w' => e = .returned (.int .i64 (-1)) ∧ Below w.heap.size w w' :=
  (compare_any A B c d xs ys w ha hb na nb).mono fun e w' ⟨h1, h2⟩ => ⟨by rw [h1, ord_lt h], h2⟩
theorem compare_ge (A B : Option Addr) (c d : Nat) (xs ys : List Nat) (w : World) (ha : Mg w A c xs) (hb : Mg w B d ys) (na : Nrm xs) (nb : Nrm ys) (h : val ys ≤ val xs) :
    Calls Tryd.prog 82 #[.slice A xs.length c, .slice B ys.length d] w fun e w' => ∃ o : Int, e = .returned (.int .i64 o) ∧ 0 ≤ o ∧ o ≤ 1 ∧ Below w.heap.size w w' :=
  (compare_any A B c d xs ys w ha hb na nb).mono fun e w' ⟨h1, h2⟩ => ⟨_, h1, by unfold ord; split <;> (try split) <;> omega, by unfold ord; split <;> (try split) <;> omega, h2⟩
theorem lz_any (t : Nat) (w : World) (ht : t < 4294967296) : Calls Tryd.prog 83 #[.int .u32 t] w fun e w' => e = .returned (.int .i64 ((32 - Lib.bitLen t : Nat) : Int)) ∧ w = w' :=
  (Tryd.bits_LeadingZeros32 t w (by omega) (by omega)).mono fun e w' ⟨h1, h2⟩ => ⟨by
    rw [h1, Int.toNat_natCast]
    have := Lib.bitLen_le t 32 (by omega) (by omega)
    exact ret_int (by omega), h2.symm⟩
theorem shiftLeft_len (A : Option Addr) (c n : Nat) (xs : List Nat) (w : World) (ha : Mg w A c xs) (hn : n ≤ 31) (hs : xs.length ≤ 1073741824) :
    Calls Tryd.prog 84 #[.slice A xs.length c, .int .i64 n] w fun e w' => ∃ g, w.heap.size ≤ g ∧ e = .returned (.slice (some ⟨g, 0, none⟩) (xs.length + 1) (xs.length + 1)) ∧ LB w' g (shl (2 ^ n) xs 0) ∧ Below w.heap.size w w' :=
  (shiftLeft_any A c n xs w ha hn hs).mono fun e w' ⟨g, h1, h2, h3, h4⟩ => ⟨g, h1, by rw [h2, length_shl], h3, h4⟩

theorem own_mg {w : World} {base : Nat} {v : Value} {xs : List Nat} (h : w.ownsRow base 57 1 v xs.length (xs.map lim)) (ho : Ok xs) : ∃ A c, v = .slice A xs.length c ∧ Mg w A c xs := by
  obtain ⟨A, c, rfl, h1, h2, h3⟩ := own_rd h
  exact ⟨A, c, rfl, h1, h2, ho, h3⟩

set_option maxHeartbeats 1000000 in
theorem divide_lt (A B : Option Addr) (c d : Nat) (xs ys : List Nat) (w : World) (ha : Mg w A c xs) (hb : Mg w B d ys) (na : Nrm xs) (nb : Nrm ys) (h : val xs < val ys) (hs : xs.length ≤ 1073741824) :
    Calls Tryd.prog 51 #[.slice A xs.length c, .slice B ys.length d] w (RetQR w (val xs / val ys) (val xs % val ys)) := by
  have h0 : val xs / val ys = 0 := Nat.div_eq_of_lt h
  have h1 : val xs % val ys = val xs := Nat.mod_eq_of_lt h
  rw [h0, h1]
  have H := hid h
  clear h h0 h1
  go_enter Tryd.func51, Tryd.ntmps51
  go_wp2_with (first | (go_at_call 82; refine (compare_lt _ _ _ _ _ _ _ ha hb na nb H.out).mono ?_; rintro e w1 ⟨rfl, hb1⟩) | (at_builtin; refine wpList_app rfl (.const (.slice none 0 0)) (.tmp 16) 22 rfl 57 (.int .u32 0) 4 Tryd.underlying22 info32 rfl w.heap.size lim (fun _ => rfl) _ [] rfl (World.ownsRow_nil _ _ _ _) A c xs rfl (ha.rd.below hb1) (by simp; omega) (by simp; omega) hb1.size ?_; intro v' w2 hown hgr hwh))
  obtain ⟨R, cc, rfl, hm⟩ := own_mg hown ha.ok
  go_wp2
  go_ret2
  have hl : limbs (val xs) = xs := limbs_val ha.ok na
  refine ⟨none, 0, R, cc, by rw [hl, limbs_zero]; rfl, ⟨by simp [limbs_zero], by omega, ok_limbs _, by rw [limbs_zero]; exact Rd.nil _ _⟩, by rw [hl]; exact hm, ?_⟩
  exact hb1.trans (below_app (World.ownsRow_nil w1 w.heap.size 57 1) hgr hb1.size)

set_option maxHeartbeats 1000000 in
theorem divide_one (A : Option Addr) (b o c d t : Nat) (xs : List Nat) (w : World) (ha : Mg w A c xs) (hb : Mg w (some ⟨b, o, none⟩) d [t]) (na : Nrm xs) (ht : t ≠ 0) (h : t ≤ val xs) (hs : xs.length ≤ 1073741824) :
    Calls Tryd.prog 51 #[.slice A xs.length c, .slice (some ⟨b, o, none⟩) 1 d] w (RetQR w (val xs / t) (val xs % t)) := by
  have nb : Nrm [t] := by simp [Nrm, ht]
  have hcmp := compare_ge A (some ⟨b, o, none⟩) c d xs [t] w ha hb na nb (by simpa [val] using h)
  have ot := hb.ok.head
  have ho : ∃ b' o', (some ⟨b, o, none⟩ : Option Addr) = some ⟨b', o', none⟩ ∧ b' < w.heap.size ∧ ∀ j (h : j < [t].length), w.cell? ⟨b', o' + j, none⟩ = some (lim [t][j]) := hb.rd (by simp)
  obtain ⟨b', o', he, hbs, hc⟩ := ho
  injection he with he
  injection he with e1 e2
  subst e1; subst e2
  have c1 := hc 0 (by simp)
  unfold lim at c1
  simp only [List.getElem_cons_zero, Nat.add_zero] at c1
  have HC := hid hcmp
  have H0 := hid (Nat.pos_of_ne_zero ht)
  have hm := Nat.mod_lt (val xs) (Nat.pos_of_ne_zero ht)
  have hd := fun (w1 : World) (hb1 : Below w.heap.size w w1) => divideSmall_any A c xs t w1 (ha.below hb1) H0.out ot hs
  have hrb : val xs % t ≤ 4294967295 := by omega
  generalize val xs % t = rm at *
  have HD := hid hd
  clear hc hcmp h ht hb nb hd hm
  go_enter Tryd.func51, Tryd.ntmps51
  go_wp2_with (first | (go_at_call 82; refine (HC.out).mono ?_; rintro e w1 ⟨ov, rfl, o0, o1, hb1⟩; obtain ⟨hc1, hf1⟩ := bcell hb1) | (go_at_call 67; refine (HD.out _ hb1).mono ?_; rintro e w2 ⟨R, cc, rfl, hr1, hr2⟩))
  go_wp2_with (go_at_call 77; refine (fromWord_any rm _ (by omega)).mono ?_; rintro e w3 ⟨R3, cc3, rfl, hr3, hr4⟩)
  go_ret2
  exact ⟨R, cc, R3, cc3, rfl, hr1.below hr4, hr3, hb1.trans ((hr2.mono hb1.size).trans (hr4.mono (Nat.le_trans hb1.size hr2.size)))⟩

end Go.Proofs.YtkfpcohdbbhmaaaDoor
