/- Homographies: walk of Compose (package). Conditions: none. -/
import Derived.Test.YtgnfobnkhjlbbaaZYU
import Derived.Test.YtgnfobnkhjlbbaaZHm13
import Derived.Test.YtgnfobnkhjlbbaaZYS
set_option linter.unusedVariables false
set_option linter.unusedSimpArgs false
namespace Go.Proofs.Ytgnfobnkhjlbbaa
open Go.RowKit Big

/-- what Compose answers -/
def twoE (fs gs : List Rf) : List Int × Int := if nrmB fs && nrmB gs then resZ (mulZ (nrmZ fs) (nrmZ gs)) else (List.replicate 18 0, 1)
end Go.Proofs.Ytgnfobnkhjlbbaa
/- Homographies: walk of Equal (package). Conditions: none. -/
namespace Go.Proofs.Ytgnfobnkhjlbbaa
open Go.RowKit Big

theorem zord_zero {x y : Int} : zord x y = 0 ↔ x = y := by unfold zord; split <;> (try split) <;> omega
/-- what Equal answers -/
def eqB (fs gs : List Rf) : Bool := nrmB fs && nrmB gs && decide (nrmZ fs = nrmZ gs)
set_option maxRecDepth 100000 in
set_option maxHeartbeats 8000000 in
theorem HEqual_g (fs gs : List Rf) (h9 : fs.length = 9) (h9' : gs.length = 9) {w : World} (hm : ∀ f ∈ fs, f.mg w) (hm' : ∀ f ∈ gs, f.mg w) :
    Calls Try.prog 15 #[.agg (cellsM (zl fs)).toArray, .agg (cellsM (zl gs)).toArray] w (RetB w (eqB fs gs)) := by
  have hl : (zl fs).length = 18 := by rw [zl_len, h9]
  have hl' : (zl gs).length = 18 := by rw [zl_len, h9']
  obtain ⟨d32, u32, row32⟩ := T32u
  have hi := hid (show (Try.prog.info? 32).map (·.size) = some (cellsM (zl fs)).length by rw [cellsM_len, hl]; exact T32i)
  have hi' := hid (show (Try.prog.info? 32).map (·.size) = some (cellsM (zl gs)).length by rw [cellsM_len, hl']; exact T32i)
  have hi18 := hid (show (Try.prog.info? 55).map (·.size) = some 18 by kernel_rfl)
  have HN := hid fun (w1 : World) (h : Below w.heap.size w w1) => Hnormal_g fs h9 (w := w1) (fun f hf => (hm f hf).below h)
  have HN' := hid fun (w1 : World) (h : Below w.heap.size w w1) => Hnormal_g gs h9' (w := w1) (fun f hf => (hm' f hf).below h)
  have hTW : Hid (eqB fs gs = (nrmB fs && nrmB gs && decide (nrmZ fs = nrmZ gs))) := rfl
  have hbz := nrmB_bz (fs := fs)
  have hbz' := nrmB_bz (fs := gs)
  generalize eqB fs gs = TW at *
  generalize nrmB fs = b1 at *
  generalize nrmB gs = b2 at *
  generalize nrmZ fs = N1 at *
  generalize nrmZ gs = N2 at *
  clear hm hm'
  go_enter Try.func15, Try.ntmps15
  go_upto_region 1 with fail
  refine enterR2 (P := fun u => Code.wp _ _ _ _ u) ?_
  intro u HB r0 q0 zn0 zq hsz
  clear hsz
  go_wp2_with (first | refine wpList_load_mid (by rfl) _ _ (by rfl) w.heap.size 0 (by rfl) (cellsM (zl fs)) _ r0 u32 row32 hi.out ?_ | fail)
  refine (HN.out u HB).mono ?_
  rintro e w1 ⟨l1, hl1, rfl, hz1, h1⟩
  have F1 := store_new (w := w1) hl1 _ hi18.out
  have h18 : (cellsM l1).length = 18 := by rw [cellsM_len, hl1]
  have HB1 := bel_step HB h1
  have q0 := rng_below q0 h1
  clear HB HN r0 zn0 zq h1
  go_upto_region 2 with fail
  refine enterR (P := fun u => Code.wp _ _ _ _ u) ?_
  intro v hv p0 pz hsz
  have q0 := rng_below q0 hv
  have HB2 := bel_step HB1 hv
  have hok1 : b1 = true → l1.map (·.z) = N1 ∧ ∀ x ∈ l1, x.ok v := fun h => ⟨(hz1 h).1, fun x hx => ((hz1 h).2 x hx).below hv⟩
  have ltm := pz.lt
  clear hsz F1 hz1 HB1 hv
  go_wp2_with (first | refine wpList_load_mid (by rfl) _ _ (by rfl) (w.heap.size + 1) 0 (by rfl) (cellsM (zl gs)) _ q0 u32 row32 hi'.out ?_ | fail)
  refine (HN'.out v HB2).mono ?_
  rintro e w2 ⟨l2, hl2, rfl, hz2, h2⟩
  have F1 := store_new (w := w2) hl2 _ hi18.out
  have h18' : (cellsM l2).length = 18 := by rw [cellsM_len, hl2]
  have p0 := rng_below p0 h2
  have HB3 := bel_step HB2 h2
  have hok1' : b1 = true → l1.map (·.z) = N1 ∧ ∀ x ∈ l1, x.ok w2 := fun h => ⟨(hok1 h).1, fun x hx => ((hok1 h).2 x hx).below h2⟩
  clear HB2 HN' q0 pz h2 hok1
  go_upto_region 3 with fail
  refine enterR (P := fun u => Code.wp _ _ _ _ u) ?_
  intro v2 hv2 q0 qz hsz
  have p0 := rng_below p0 hv2
  have HB := bel_step HB3 hv2
  have hok1 := hid fun (h : b1 = true) => And.intro (hok1' h).1 (fun x hx => ((hok1' h).2 x hx).below hv2)
  have hok2 := hid fun (h : b2 = true) => And.intro (hz2 h).1 (fun x hx => ((hz2 h).2 x hx).below hv2)
  clear hsz F1 hz2 HB3 hv2 hok1' ltm u32 row32
  cases b1
  · have HR : Hid (TW = false) := by rw [hTW]; rfl
    clear hTW
    go_wp2
    go_ret
    exact ⟨by rw [HR.out]; rfl, HB⟩
  · cases b2
    · have HR : Hid (TW = false) := by rw [hTW]; rfl
      clear hTW
      go_wp2
      go_ret
      exact ⟨by rw [HR.out]; rfl, HB⟩
    · have hT2 : Hid (TW = decide (N1 = N2)) := by rw [hTW]; rfl
      obtain ⟨m1, o1⟩ := hok1.out rfl
      obtain ⟨m2, o2⟩ := hok2.out rfl
      have bz1 := (hbz rfl).1
      have bz2 := (hbz' rfl).1
      have e1 : ∀ e ∈ l1, Bz 1280 e.z := fun e he => bz1 e.z (m1 ▸ List.mem_map.2 ⟨e, he, rfl⟩)
      have e2 : ∀ e ∈ l2, Bz 1280 e.z := fun e he => bz2 e.z (m2 ▸ List.mem_map.2 ⟨e, he, rfl⟩)
      rw [← m1, ← m2] at hT2
      clear hok1 hok2 hbz hbz' bz1 bz2 m1 m2 hTW
      have hP := hid p0
      have hQ := hid q0
      clear p0 q0
      obtain ⟨g1, hg1⟩ : ∃ g1, g1 = w1.heap.size := ⟨_, rfl⟩
      obtain ⟨g2, hg2⟩ : ∃ g2, g2 = w2.heap.size := ⟨_, rfl⟩
      rw [← hg1, ← hg2]
      rw [← hg1] at hP
      rw [← hg2] at hQ
      clear hg1 hg2 qz
      go_wp2
      go_loopw [26] (fun s26 wr => ∃ j : Nat, j ≤ 9 ∧ s26 = .int .i64 j ∧ Below v2.heap.size v2 wr ∧ Hid (∀ i (h : i < l1.length) (h' : i < l2.length), i < j → l1[i].z = l2[i].z)) (fun s26 _ => 9 - (intOf s26).toNat)
      case atStart => exact ⟨0, by omega, rfl, Below.refl _ _, fun i _ _ h => by omega⟩
      case round =>
        obtain ⟨j, hj, rfl, hbl, hp⟩ := hrel
        by_cases h9j : j < 9
        · have hj1 : j < l1.length := by omega
          have hj2 : j < l2.length := by omega
          obtain ⟨t0, t1⟩ := rng_cell (rng_below hP.out hbl) hj1
          obtain ⟨t2, t3⟩ := rng_cell (rng_below hQ.out hbl) hj2
          have x1 := (o1 l1[j] (List.getElem_mem hj1)).below hbl
          have x2 := (o2 l2[j] (List.getElem_mem hj2)).below hbl
          have y1 := e1 l1[j] (List.getElem_mem hj1)
          have y2 := e2 l2[j] (List.getElem_mem hj2)
          have h9i : (j : Int) < 9 := by omega
          have hbad : l1[j].z ≠ l2[j].z → decide (l1.map (·.z) = l2.map (·.z)) = false := fun h => by
            rw [decide_eq_false_iff_not]
            intro h'
            have h2 := congrArg (fun l => l[j]?) h'
            simp only [List.getElem?_map, List.getElem?_eq_getElem hj1, List.getElem?_eq_getElem hj2, Option.map_some, Option.some.injEq] at h2
            exact h h2
          have hgood : l1[j].z = l2[j].z → ∀ i (h : i < l1.length) (h' : i < l2.length), i < j + 1 → l1[i].z = l2[i].z := fun h i hi hi2 hi3 => by
            rcases Nat.lt_or_ge i j with h4 | h4
            · exact hp.out i hi hi2 h4
            · have e : i = j := by omega
              subst e; exact h
          rw [← hT2.out] at hbad
          have HC := hid fun (w3 : World) (h : Below wr.heap.size wr w3) => Cmp_g (w := w3) x1.i x2.i (x1.m.below h) (x2.m.below h) (y1.ft (by omega)) (y2.ft (by omega)) _ rfl
          have hz := zord_zero (x := l1[j].z) (y := l2[j].z)
          generalize zord l1[j].z l2[j].z = kk at *
          have lt0 := cell_lt t0
          have lt2 := cell_lt t2
          have HB := (Below.refl wr.heap.size wr)
          by_cases hk : kk = 0
          · have HG := hid (hgood (hz.1 hk))
            subst hk
            clear hbad hgood hz x1 x2 y1 y2 e1 e2 o1 o2 hp
            generalize l1[j] = f1 at *
            generalize l2[j] = f2 at *
            obtain ⟨z1, c1, n1, xs1, A1, d1⟩ := f1
            obtain ⟨z2, c2, n2, xs2, A2, d2⟩ := f2
            dsimp only at *
            go_wp2_with fail
            go_region_held3 (fun w' => (w'.cell? ⟨g1, j * 2, none⟩ = some (.bool c1) ∧ w'.cell? ⟨g1, j * 2 + 1, none⟩ = some (.slice A1 n1 d1)) ∧ (w'.cell? ⟨g2, j * 2, none⟩ = some (.bool c2) ∧ w'.cell? ⟨g2, j * 2 + 1, none⟩ = some (.slice A2 n2 d2))) (first | ((try dsimp only); repeat' (first | with_reducible assumption | apply And.intro | (with_reducible refine keep_alloc ?_) | (with_reducible refine keep_drew ?_) | (with_reducible refine keep_set (by omega) ?_) | (with_reducible refine keep_sets (by omega) ?_) | (with_reducible refine keep_cell (W := wr) ?_ ?_) | fail))) ((go_at_call 37; (with_reducible refine (HC.out _ (bel_step HB BG)).mono ?_); rintro e y5 ⟨rfl, hq_⟩; have qy5 : Below wr.heap.size wr y5 := bel_step BG hq_))
            all_goals
              go_wp2
              go_roundw
              case rel => exact ⟨j + 1, by omega, by go_num, bel_step hbl qy5, HG.out⟩
              case measure => simp [intOf]; omega
          · have HR := hid (hbad (fun h => hk (hz.2 h)))
            clear hbad hgood hz x1 x2 y1 y2 e1 e2 o1 o2 hp hT2
            generalize l1[j] = f1 at *
            generalize l2[j] = f2 at *
            obtain ⟨z1, c1, n1, xs1, A1, d1⟩ := f1
            obtain ⟨z2, c2, n2, xs2, A2, d2⟩ := f2
            dsimp only at *
            go_wp2_with fail
            go_region_held3 (fun w' => (w'.cell? ⟨g1, j * 2, none⟩ = some (.bool c1) ∧ w'.cell? ⟨g1, j * 2 + 1, none⟩ = some (.slice A1 n1 d1)) ∧ (w'.cell? ⟨g2, j * 2, none⟩ = some (.bool c2) ∧ w'.cell? ⟨g2, j * 2 + 1, none⟩ = some (.slice A2 n2 d2))) (first | ((try dsimp only); repeat' (first | with_reducible assumption | apply And.intro | (with_reducible refine keep_alloc ?_) | (with_reducible refine keep_drew ?_) | (with_reducible refine keep_set (by omega) ?_) | (with_reducible refine keep_sets (by omega) ?_) | (with_reducible refine keep_cell (W := wr) ?_ ?_) | fail))) ((go_at_call 37; (with_reducible refine (HC.out _ (bel_step HB BG)).mono ?_); rintro e y5 ⟨rfl, hq_⟩; have qy5 : Below wr.heap.size wr y5 := bel_step BG hq_))
            all_goals
              have hq5 := bel_step (bel_step ‹Below w.heap.size w v2› hbl) qy5
              go_wp2
              go_ret
              exact ⟨by rw [HR.out]; rfl, hq5⟩
        · obtain rfl : j = 9 := by omega
          have HR : Hid (TW = true) := by
            unfold Hid at hT2 ⊢
            rw [hT2, decide_eq_true_eq]
            refine List.ext_getElem (by simp [hl1, hl2]) fun i hi hi2 => ?_
            rw [List.getElem_map, List.getElem_map]
            exact hp.out i (by simpa using hi) (by simpa using hi2) (by simp at hi; omega)
          have hq5 := bel_step HB hbl
          clear hT2 hp
          go_wp2
          go_ret
          exact ⟨by rw [HR.out]; rfl, hq5⟩
end Go.Proofs.Ytgnfobnkhjlbbaa
