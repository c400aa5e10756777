/- Integers: the walk of Neg. Conditions: none. -/
import Derived.Test.YtkfpcohdbbhmaaaDoorBi21
import Derived.Deep.RegionLaw
namespace Go.Proofs.YtkfpcohdbbhmaaaDoor
set_option linter.unusedVariables false
set_option linter.unusedSimpArgs false
open Go.RowKit Big

/-- append, as one step of a region that draws its order -/
theorem step_app {α : Type} {P : Program} {w : World} {ops : Array Oper} {o : Oper} {a : Act} {K : Act → World → Prop} {Q : Exit → Act → World → Prop} {E : Prop} (hgd : o.guard = none) (s x : Operand) (t : TypeId)
    (ho : o.op = .call { callee := .builtin .append, args := #[s, x], argTypes := #[t, t] }) (e : TypeId) (z : Value) (bytes : Nat) (ht : P.underlying t = some (.slice e)) (hinfo : (P.info? e).map (fun i => (i.zero, i.size, i.bytes)) = some (some z, 1, bytes)) (hz1 : z.cells.size = 1)
    (base : Nat) (f : α → Value) (h1 : ∀ x, (f x).oneCell' = true) (v : Value) (xs : List α) (hs : a.eval s = v) (hown : w.ownsRow base e 1 v xs.length (xs.map f)) (A : Option Addr) (c : Nat) (ys : List α) (hx : a.eval x = .slice A ys.length c) (hr : Rd f w A ys)
    (h63 : xs.length + ys.length ≤ 9223372036854775807) (hbytes : (xs.length + ys.length) * bytes ≤ 140737488355328) (hbase : base ≤ w.heap.size)
    (h : ∀ v' w', w'.ownsRow base e 1 v' (xs ++ ys).length ((xs ++ ys).map f) → w.grownBy w' v.ownBlock → (v'.ownBlock = v.ownBlock ∨ v'.ownBlock = some w.heap.size) → K (a.put o.dst v') w') :
    if Region.wanted o (yielded ops a.tmps) = true then Oper.wp P o a w K Q else E := by
  have hw : Region.wanted o (yielded ops a.tmps) = true := by simp [Region.wanted, hgd]
  rw [if_pos hw]
  obtain ⟨v', w', hrun, h2, h3, h4⟩ := run_app (P := P) t o.type e z bytes ht hinfo hz1 base f h1 v xs hown A c ys hr h63 hbytes hbase
  unfold Oper.wp execOp
  simp only [ho, resolve, invoke, builtin, Sem.run_bind, Sem.run_pure, Result.andThen_ok, List.map_toArray, List.map_cons, List.map_nil, hs, hx, hrun]
  exact h v' w' h2 h3 h4

theorem Neg_bad (na : Bool) (xs : List Nat) (A : Option Addr) (c : Nat) (w : World) (ha : Mg w A c xs) (h : validB na xs = false) :
    Calls Tryd.prog 43 #[.agg #[.bool na, .slice A xs.length c]] w (RetZ w 0) := by
  have HX := hid fun (w1 : World) (h1 : Below w.heap.size w w1) => Valid_f (ha.below h1) h
  clear ha h
  generalize xs.length = lx at *
  go_enter Tryd.func43, Tryd.ntmps43
  go_wp2_with fail
  refine (HX.out _ (by repeat (first | assumption | exact Below.refl _ _ | refine Below.alloc ?_ (by simp; try omega) _ | refine Below.drew ?_ | refine below_drewN ?_ _))).mono ?_
  rintro e w1 ⟨rfl, h1⟩
  obtain ⟨p1, p2, p3, p4, p5⟩ := box2_keep h1
  have b1 : Below w.heap.size w w1 := Below.trans (b := _) (by repeat (first | assumption | exact Below.refl _ _ | refine Below.alloc ?_ (by simp; try omega) _ | refine Below.drew ?_ | refine below_drewN ?_ _)) (h1.mono (by simp; omega))
  have k0 := p3 0
  have k1 := p3 1
  simp at k0 k1
  go_wp2
  refine bodyPost_ret (v := .agg #[.bool false, .slice none 0 0]) ?_ rfl ?_
  · simp [results, Tryd.results43, go_sem, k0, k1]
  · exact retZ_zero (below_set (below_set b1 (by omega) _ _) (by omega) _ _)

set_option maxRecDepth 100000 in
theorem Neg_ok (x : Int) (A : Option Addr) (c : Nat) (w : World) (ha : Mg w A c (limbs x.natAbs)) (fx : fits x) :
    Calls Tryd.prog 43 #[.agg #[.bool (decide ((x) < 0)), .slice A (limbs (Int.natAbs (x))).length c]] w (RetZ w (-x)) := by
  have HX := hid fun (w1 : World) (h1 : Below w.heap.size w w1) => Valid_t (ha.below h1) fx
  have HI := hid fun (w1 : World) (A1 : Option Addr) (c1 : Nat) (h1 : Mg w1 A1 c1 (limbs x.natAbs)) => by
    have h2 := integer_any (!decide (x < 0)) A1 c1 x.natAbs w1 h1
    rw [sg_not] at h2
    exact h2
  unfold fits at fx
  generalize decide (x < 0) = bx at *
  generalize hxs : limbs x.natAbs = xs at *
  have HH := hid hxs
  clear hxs
  go_enter Tryd.func43, Tryd.ntmps43
  go_wp2_with fail
  refine (HX.out _ (by repeat (first | assumption | exact Below.refl _ _ | refine Below.alloc ?_ (by simp; try omega) _ | refine Below.drew ?_ | refine below_drewN ?_ _))).mono ?_
  rintro e w1 ⟨rfl, h1⟩
  obtain ⟨p1, p2, p3, p4, p5⟩ := box2_keep h1
  have b1 : Below w.heap.size w w1 := Below.trans (b := _) (by repeat (first | assumption | exact Below.refl _ _ | refine Below.alloc ?_ (by simp; try omega) _ | refine Below.drew ?_ | refine below_drewN ?_ _)) (h1.mono (by simp; omega))
  go_wp2_with fail
  clear HX
  go_region_law (first | (refine step_app rfl (.const (.slice none 0 0)) (.tmp 11) 22 rfl 57 (.int .u32 0) 4 Tryd.underlying22 info32 rfl w.heap.size lim (fun _ => rfl) _ [] rfl (World.ownsRow_nil _ _ _ _) A c xs rfl (ha.below b1.drew).rd (by simp; omega) (by simp; omega) b1.drew.size ?_; intro v' w2 hown hgr hwh; obtain ⟨R, cc, rfl, hm⟩ := own_mg hown (ha.below b1.drew).ok; have h2 := h1.drew.trans (below_app (World.ownsRow_nil w1.drew _ 57 1) hgr h1.drew.size); obtain ⟨q1, q2, q3, q4, q5⟩ := box2_keep h2) | (go_simp; go_at_call 54; refine (HI.out _ _ _ hm).mono ?_; rintro e w3 ⟨R3, c3, rfl, hr3, h3⟩; have h23 := h2.trans (h3.mono h2.size); obtain ⟨r1, r2, r3, r4, r5⟩ := box2_keep h23))
  all_goals
    have k0 := r3 0
    have k1 := r3 1
    simp at k0 k1
    go_wp2
    refine bodyPost_ret (v := .agg #[.bool (decide (-x < 0)), .slice R3 (limbs (-x).natAbs).length c3]) ?_ rfl ?_
    · simp [results, Tryd.results43, go_sem, k0, k1]
    · exact fin_z hr3 (((Below.refl _ _).alloc (Nat.le_refl _) _ |>.alloc (by simp) _).trans (h23.mono (by simp; omega))) (by omega) k0 k1 _ _

end Go.Proofs.YtkfpcohdbbhmaaaDoor
