/- The laws' helpers magnitude, divides, equal; plain facts on quotients. Conditions: none. -/
import Derived.Test.YtkfpcohdbbhmaaaDoorLo
import Derived.Deep.RegionHeld3
set_option linter.unusedVariables false
set_option linter.unusedSimpArgs false
namespace Go.Proofs.YtkfpcohdbbhmaaaDoor
open Go.RowKit Big

theorem exRun {w w1 : World} (h : Hid (ExOk w)) (b : Below w.heap.size w w1) : Calls Tryd.prog 20 #[] w1 (RetB w1 true) := h.out w1 b
theorem fits_natAbs {z : Int} (h : fits z) : fits (z.natAbs : Int) := by unfold fits at *; rwa [Int.natAbs_natCast]

set_option maxHeartbeats 1000000 in
theorem magnitude_g {x z : Int} {b b2 : Bool} {n n2 : Nat} {xs zs : List Nat} {A : Option Addr} {c : Nat} {w : World} (hx : Iz x b n xs) (hz : Iz z b2 n2 zs) (ha : Mg w A c xs) (fx : fits x) (h : (x.natAbs : Int) = z) :
    Calls Tryd.prog 50 #[.agg #[.bool b, .slice A n c]] w (GZ w b2 n2 zs) := by
  by_cases h0 : x < 0
  · have hb : b = true := by rw [hx.hb]; simpa using h0
    subst hb
    have HN := hid fun (w1 : World) (m : Mg w1 A c xs) => Neg_g (w := w1) hx hz m fx (by omega)
    clear hx hz fx h h0
    go_enter Tryd.func50, Tryd.ntmps50
    go_wp2_with fail
    refine (HN.out _ (ha.below (by repeat' (first | with_reducible assumption | exact Below.refl _ _ | (refine Below.alloc ?_ (by first | omega | (simp only [World.size_alloc, World.size_setCell, World.size_drew]; done) | (simp only [World.size_alloc, World.size_setCell, World.size_drew]; omega)) _) | (refine Below.drew ?_) | (refine below_drewN ?_ _) | (refine Below.setCell ?_ (by first | omega | (simp only [World.size_alloc, World.size_setCell, World.size_drew]; done) | (simp only [World.size_alloc, World.size_setCell, World.size_drew]; omega)) _))))).mono ?_
    rintro e w1 ⟨R, c1, rfl, m1, h1⟩
    obtain ⟨p1, p2, p3, p4, p7⟩ := box2_keep h1
    have hb1 : Below w.heap.size w w1 := bel_step (by repeat' (first | with_reducible assumption | exact Below.refl _ _ | (refine Below.alloc ?_ (by first | omega | (simp only [World.size_alloc, World.size_setCell, World.size_drew]; done) | (simp only [World.size_alloc, World.size_setCell, World.size_drew]; omega)) _) | (refine Below.drew ?_) | (refine below_drewN ?_ _) | (refine Below.setCell ?_ (by first | omega | (simp only [World.size_alloc, World.size_setCell, World.size_drew]; done) | (simp only [World.size_alloc, World.size_setCell, World.size_drew]; omega)) _))) h1
    have k0 := p3 0
    have k1 := p3 1
    simp at k0 k1
    go_wp2
    refine bodyPost_ret (v := .agg #[.bool b2, .slice R n2 c1]) ?_ rfl ?_
    · simp [results, Tryd.results50, go_sem, k0, k1]
    · exact ⟨R, c1, rfl, Mg.setS (by rw [cell_set_ne (by omega)]; exact k1) (Mg.setB k0 m1), below_set (below_set hb1 (by omega) _ _) (by omega) _ _⟩
  · have hb : b = false := by rw [hx.hb]; simpa using h0
    have hxz : x = z := by omega
    subst hxz
    obtain ⟨rfl, rfl, rfl⟩ := hz
    obtain ⟨e1, rfl, rfl⟩ := hx
    rw [← e1, hb]
    clear e1 hb fx h h0
    have HA := hid ha
    clear ha
    generalize (limbs x.natAbs).length = n at *
    go_enter Tryd.func50, Tryd.ntmps50
    go_wp2
    refine bodyPost_ret (v := .agg #[.bool false, .slice A n c]) ?_ rfl ?_
    · simp [results, Tryd.results50, go_sem]
    · exact ⟨A, c, rfl, HA.out.below (by repeat' (first | with_reducible assumption | exact Below.refl _ _ | (refine Below.alloc ?_ (by first | omega | (simp only [World.size_alloc, World.size_setCell, World.size_drew]; done) | (simp only [World.size_alloc, World.size_setCell, World.size_drew]; omega)) _) | (refine Below.drew ?_) | (refine below_drewN ?_ _) | (refine Below.setCell ?_ (by first | omega | (simp only [World.size_alloc, World.size_setCell, World.size_drew]; done) | (simp only [World.size_alloc, World.size_setCell, World.size_drew]; omega)) _))), (by repeat' (first | with_reducible assumption | exact Below.refl _ _ | (refine Below.alloc ?_ (by first | omega | (simp only [World.size_alloc, World.size_setCell, World.size_drew]; done) | (simp only [World.size_alloc, World.size_setCell, World.size_drew]; omega)) _) | (refine Below.drew ?_) | (refine below_drewN ?_ _) | (refine Below.setCell ?_ (by first | omega | (simp only [World.size_alloc, World.size_setCell, World.size_drew]; done) | (simp only [World.size_alloc, World.size_setCell, World.size_drew]; omega)) _)))⟩

set_option maxHeartbeats 1000000 in
/-- divides(g, x), where g divides x -/
theorem divides_g {x y : Int} {b b' : Bool} {n n' : Nat} {xs ys : List Nat} {A B : Option Addr} {c d : Nat} {w : World} (hx : Iz x b n xs) (hy : Iz y b' n' ys) (ha : Mg w A c xs) (hb : Mg w B d ys) (fx : fits x) (fy : fits y) (h1 : y = 0 → x = 0) (h2 : y ≠ 0 → dmR x y = 0) :
    Calls Tryd.prog 49 #[.agg #[.bool b', .slice B n' d], .agg #[.bool b, .slice A n c]] w (RetB w true) := by
  by_cases h0 : y = 0
  · have hn : n' = 0 := hy.zero.2 h0
    have hm : n = 0 := hx.zero.2 (h1 h0)
    subst hn
    subst hm
    clear hx hy fx fy h1 h2 h0 ha hb
    go_enter Tryd.func49, Tryd.ntmps49
    go_wp2
    go_ret
    exact ⟨rfl, (by repeat' (first | with_reducible assumption | exact Below.refl _ _ | (refine Below.alloc ?_ (by first | omega | (simp only [World.size_alloc, World.size_setCell, World.size_drew]; done) | (simp only [World.size_alloc, World.size_setCell, World.size_drew]; omega)) _) | (refine Below.drew ?_) | (refine below_drewN ?_ _) | (refine Below.setCell ?_ (by first | omega | (simp only [World.size_alloc, World.size_setCell, World.size_drew]; done) | (simp only [World.size_alloc, World.size_setCell, World.size_drew]; omega)) _)))⟩
  · have hn : ((n' : Int) == 0) = false := by
      rw [beq_eq_false_iff_ne]
      intro h
      exact h0 (hy.zero.1 (by omega))
    obtain ⟨b2, n2, x2, I2⟩ := iz (dmQ x y)
    obtain ⟨b3, n3, x3, I3⟩ := iz 0
    have hn3 : n3 = 0 := I3.out.zero.2 rfl
    subst hn3
    have HD := hid fun (w1 : World) (m : Mg w1 A c xs) (m' : Mg w1 B d ys) => DivMod_g (w := w1) hx hy I2.out I3.out m m' fx fy h0 rfl (h2 h0)
    clear hx hy fx fy h1 h2 h0
    have HB : Below w.heap.size w w := Below.refl _ _
    go_enter Tryd.func49, Tryd.ntmps49
    go_wp2_with fail
    refine (HD.out _ (ha.below (by repeat' (first | with_reducible assumption | exact Below.refl _ _ | (refine Below.alloc ?_ (by first | omega | (simp only [World.size_alloc, World.size_setCell, World.size_drew]; done) | (simp only [World.size_alloc, World.size_setCell, World.size_drew]; omega)) _) | (refine Below.drew ?_) | (refine below_drewN ?_ _) | (refine Below.setCell ?_ (by first | omega | (simp only [World.size_alloc, World.size_setCell, World.size_drew]; done) | (simp only [World.size_alloc, World.size_setCell, World.size_drew]; omega)) _)))) (hb.below (by repeat' (first | with_reducible assumption | exact Below.refl _ _ | (refine Below.alloc ?_ (by first | omega | (simp only [World.size_alloc, World.size_setCell, World.size_drew]; done) | (simp only [World.size_alloc, World.size_setCell, World.size_drew]; omega)) _) | (refine Below.drew ?_) | (refine below_drewN ?_ _) | (refine Below.setCell ?_ (by first | omega | (simp only [World.size_alloc, World.size_setCell, World.size_drew]; done) | (simp only [World.size_alloc, World.size_setCell, World.size_drew]; omega)) _))))).mono ?_
    rintro e w1 ⟨Rq, cq, Rr, cr, rfl, mq, mr, h3⟩
    have hb1 : Below w.heap.size w w1 := bel_step (by repeat' (first | with_reducible assumption | exact Below.refl _ _ | (refine Below.alloc ?_ (by first | omega | (simp only [World.size_alloc, World.size_setCell, World.size_drew]; done) | (simp only [World.size_alloc, World.size_setCell, World.size_drew]; omega)) _) | (refine Below.drew ?_) | (refine below_drewN ?_ _) | (refine Below.setCell ?_ (by first | omega | (simp only [World.size_alloc, World.size_setCell, World.size_drew]; done) | (simp only [World.size_alloc, World.size_setCell, World.size_drew]; omega)) _))) h3
    go_wp2
    go_ret
    exact ⟨rfl, Below.trans hb1 (Below.mono (by repeat' (first | with_reducible assumption | exact Below.refl _ _ | (refine Below.alloc ?_ (by first | omega | (simp only [World.size_alloc, World.size_setCell, World.size_drew]; done) | (simp only [World.size_alloc, World.size_setCell, World.size_drew]; omega)) _) | (refine Below.drew ?_) | (refine below_drewN ?_ _) | (refine Below.setCell ?_ (by first | omega | (simp only [World.size_alloc, World.size_setCell, World.size_drew]; done) | (simp only [World.size_alloc, World.size_setCell, World.size_drew]; omega)) _))) hb1.size)⟩

set_option maxHeartbeats 1000000 in
theorem equal_e {b b' : Bool} {n n' : Nat} {A B : Option Addr} {c d : Nat} {w : World} (e f : Int) (h : e ≠ 0 ∨ f ≠ 0) :
    Calls Tryd.prog 41 #[.agg #[.bool b, .slice A n c], .int .i64 e, .agg #[.bool b', .slice B n' d], .int .i64 f] w (RetB w true) := by
  by_cases he : e = 0
  · have hf : (f != 0) = true := by rw [bne_iff_ne]; rcases h with h | h <;> omega
    subst he
    clear h
    go_enter Tryd.func41, Tryd.ntmps41
    go_wp2
    go_ret
    exact ⟨rfl, (by repeat' (first | with_reducible assumption | exact Below.refl _ _ | (refine Below.alloc ?_ (by first | omega | (simp only [World.size_alloc, World.size_setCell, World.size_drew]; done) | (simp only [World.size_alloc, World.size_setCell, World.size_drew]; omega)) _) | (refine Below.drew ?_) | (refine below_drewN ?_ _) | (refine Below.setCell ?_ (by first | omega | (simp only [World.size_alloc, World.size_setCell, World.size_drew]; done) | (simp only [World.size_alloc, World.size_setCell, World.size_drew]; omega)) _)))⟩
  · have hf : (e != 0) = true := by rw [bne_iff_ne]; exact he
    clear h he
    go_enter Tryd.func41, Tryd.ntmps41
    go_wp2
    go_ret
    exact ⟨rfl, (by repeat' (first | with_reducible assumption | exact Below.refl _ _ | (refine Below.alloc ?_ (by first | omega | (simp only [World.size_alloc, World.size_setCell, World.size_drew]; done) | (simp only [World.size_alloc, World.size_setCell, World.size_drew]; omega)) _) | (refine Below.drew ?_) | (refine below_drewN ?_ _) | (refine Below.setCell ?_ (by first | omega | (simp only [World.size_alloc, World.size_setCell, World.size_drew]; done) | (simp only [World.size_alloc, World.size_setCell, World.size_drew]; omega)) _)))⟩

set_option maxHeartbeats 1000000 in
theorem equal_z {x : Int} {b : Bool} {n : Nat} {xs : List Nat} {A B : Option Addr} {c d : Nat} {w : World} (hx : Iz x b n xs) (ha : Mg w A c xs) (hb : Mg w B d xs) :
    Calls Tryd.prog 41 #[.agg #[.bool b, .slice A n c], .int .i64 0, .agg #[.bool b, .slice B n d], .int .i64 0] w (RetB w true) := by
  have HS := hid fun (w1 : World) (m : Mg w1 A c xs) (m' : Mg w1 B d xs) => Same_g (w := w1) hx hx m m' true (by simp)
  clear hx
  go_enter Tryd.func41, Tryd.ntmps41
  go_wp2_with fail
  refine (HS.out _ (ha.below (by repeat' (first | with_reducible assumption | exact Below.refl _ _ | (refine Below.alloc ?_ (by first | omega | (simp only [World.size_alloc, World.size_setCell, World.size_drew]; done) | (simp only [World.size_alloc, World.size_setCell, World.size_drew]; omega)) _) | (refine Below.drew ?_) | (refine below_drewN ?_ _) | (refine Below.setCell ?_ (by first | omega | (simp only [World.size_alloc, World.size_setCell, World.size_drew]; done) | (simp only [World.size_alloc, World.size_setCell, World.size_drew]; omega)) _)))) (hb.below (by repeat' (first | with_reducible assumption | exact Below.refl _ _ | (refine Below.alloc ?_ (by first | omega | (simp only [World.size_alloc, World.size_setCell, World.size_drew]; done) | (simp only [World.size_alloc, World.size_setCell, World.size_drew]; omega)) _) | (refine Below.drew ?_) | (refine below_drewN ?_ _) | (refine Below.setCell ?_ (by first | omega | (simp only [World.size_alloc, World.size_setCell, World.size_drew]; done) | (simp only [World.size_alloc, World.size_setCell, World.size_drew]; omega)) _))))).mono ?_
  rintro e w1 ⟨rfl, h3⟩
  go_wp2
  go_ret
  exact ⟨rfl, bel_step (by repeat' (first | with_reducible assumption | exact Below.refl _ _ | (refine Below.alloc ?_ (by first | omega | (simp only [World.size_alloc, World.size_setCell, World.size_drew]; done) | (simp only [World.size_alloc, World.size_setCell, World.size_drew]; omega)) _) | (refine Below.drew ?_) | (refine below_drewN ?_ _) | (refine Below.setCell ?_ (by first | omega | (simp only [World.size_alloc, World.size_setCell, World.size_drew]; done) | (simp only [World.size_alloc, World.size_setCell, World.size_drew]; omega)) _))) h3⟩

/-- two results of which one is an error, or both are the same number -/
theorem equal_g {x y z err z' err' : Int} {b b' : Bool} {n n' : Nat} {xs ys : List Nat} {A B : Option Addr} {c d : Nat} {w : World} (hz : Iz z b n xs) (hz' : Iz z' b' n' ys) (hx : fitE x = (z, err)) (hy : fitE y = (z', err')) (hxy : x = y) (ha : Mg w A c xs) (hb : Mg w B d ys) :
    Calls Tryd.prog 41 #[.agg #[.bool b, .slice A n c], .int .i64 err, .agg #[.bool b', .slice B n' d], .int .i64 err'] w (RetB w true) := by
  subst hxy
  rw [hx, Prod.mk.injEq] at hy
  obtain ⟨rfl, rfl⟩ := hy
  obtain ⟨rfl, rfl, rfl⟩ := hz
  obtain ⟨rfl, rfl, rfl⟩ := hz'
  by_cases h : err = 0
  · subst h
    exact equal_z ⟨rfl, rfl, rfl⟩ ha hb
  · exact equal_e _ _ (.inl h)
end Go.Proofs.YtkfpcohdbbhmaaaDoor
