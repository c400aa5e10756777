/- Geometry: the law Insides. Conditions: none. -/
import Derived.Test.YtglailcfgcdagaaGreatZXR
import Derived.Test.YtglailcfgcdagaaGreatZGa1
set_option linter.unusedVariables false
set_option linter.unusedSimpArgs false
namespace Go.Proofs.YtglailcfgcdagaaGreat
open Go.RowKit Big
theorem turn_num2 {t : Int} {n : Nat} (hn : 0 < n) (hn2 : n ≤ 4096) : ∃ (r s : Int) (k : Nat), t.tmod n = r ∧ r + n = s ∧ s.tmod n = (k : Int) ∧ k < n ∧ IntKind.i64.wrap r = r ∧ IntKind.i64.wrap s = s ∧ IntKind.i64.wrap (k : Int) = (k : Int) := by
 have h1 : (t.tmod n).natAbs < n := by
  rw [Int.natAbs_tmod]
  exact Nat.mod_lt _ (by omega)
 obtain ⟨k, hk⟩ : ∃ k : Nat, (t.tmod n + n).tmod n = (k : Int) := by
  rw [Int.tmod_eq_emod_of_nonneg (by omega)]
  exact ⟨((t.tmod n + n) % n).toNat, by rw [Int.toNat_of_nonneg (Int.emod_nonneg _ (by omega))]⟩
 have h2 : (k : Int) < n := by
  rw [← hk, Int.tmod_eq_emod_of_nonneg (by omega)]
  exact Int.emod_lt_of_pos _ (by omega)
 refine ⟨_, _, k, rfl, rfl, hk, by omega, ?_, ?_, ?_⟩ <;> (rw [IntKind.wrap_i64]; omega)
theorem hullE_le {l H : List (Int × Int)} (h : hullE l = (H, 0)) : 0 < H.length ∧ H.length ≤ l.length := by
 unfold hullE at h
 by_cases c0 : chkP l = 0
 ·rw [if_pos c0] at h
  by_cases c1 : l.length = 0
  ·rw [if_pos c1] at h; injection h with _ h2; omega
  ·rw [if_neg c1] at h
   injection h with h2 _
   have h0 : l ≠ [] := fun e => c1 (by rw [e]; rfl)
   subst h2
   exact ⟨List.length_pos_iff.2 (hullP_ne h0), hullP_len h0⟩
 ·rw [if_neg c0] at h; injection h with _ h2; omega
set_option maxRecDepth 100000 in
set_option maxHeartbeats 8000000 in
theorem Insides_law (l : List (Int × Int)) (A : Option Addr) (c : Nat) {w : World} (hl : Pb w A c l) (p : Int × Int) (tn : Int) (htn : i64B tn) : Calls Tryz.prog 3 #[.slice A l.length c, .agg #[.int .i64 p.1, .int .i64 p.2], .int .i64 tn] w (RetB w true) := by
 obtain ⟨n, hn⟩ : ∃ n, l.length = n := ⟨_, rfl⟩
 obtain ⟨⟨H, e1⟩, hE⟩ : ∃ E, hullE l = E := ⟨_, rfl⟩
 obtain ⟨x, y⟩ := p
 have H0 := hid fun (W : World) => alive_ok W
 have H1 := hid fun (W : World) (hb : Below w.heap.size w W) => (show Calls Tryz.prog 5 #[.slice A n c, .agg #[.int .i64 x, .int .i64 y]] W (RetBI W (insE l (x, y))) from by rw [← hn]; exact GInside_g l A c (x, y) (hl.below hb))
 have H2 := hid fun (W : World) (hb : Below w.heap.size w W) => (show Calls Tryz.prog 6 #[.slice A n c, .agg #[.int .i64 x, .int .i64 y]] W (RetBI W (insE l (x, y))) from by rw [← hn]; exact RInside_g l A c (x, y) (hl.below hb))
 have H3 := hid fun (W : World) (hb : Below w.heap.size w W) => (show Calls Tryz.prog 7 #[.slice A n c] W (RetRE W (H, e1)) from by rw [← hn, ← hE]; exact RHull_g l A c (hl.below hb))
 have HC := hid fun (h : e1 = 0) => (show 0 < H.length ∧ H.length ≤ n from by subst h; rw [← hn]; exact hullE_le hE)
 have hcc := hl.cap
 have hcm := hl.max
 rw [hn] at hcc ⊢
 generalize insE l (x, y) = E at *
 obtain ⟨eb, ee⟩ := E
 clear hl hE hn
 go_enter Tryz.func3, Tryz.ntmps3
 go_upto_region 1 with fail
 refine enterR (P := fun u => Code.wp _ _ _ _ u) (c := [.int .i64 x, .int .i64 y]) ?_
 intro u HB r1 zn hsz
 have p0 := r1 0 _ rfl
 have p1 := r1 1 _ rfl
 simp only [Nat.zero_add] at p0 p1
 clear r1 zn hsz
 by_cases h80 : 80 < n
 ·have h80i : (80 : Int) < (n : Int) := by omega
  clear H1 H2 H3 HC p0 p1
  go_wp2_with fail
  refine (H0.out _).mono ?_
  rintro e w9 ⟨rfl, hv⟩
  replace HB := bel_step HB hv
  clear hv
  go_wp2
  go_ret
  exact ⟨rfl, HB⟩
 ·have h80i : ¬ (80 : Int) < (n : Int) := by omega
  go_wp2_with fail
  refine (H1.out _ HB).mono ?_
  rintro e w1 ⟨rfl, hv⟩
  dsimp only
  replace HB := bel_step HB hv
  have p0 := keep_cell hv p0
  have p1 := keep_cell hv p1
  clear hv H1
  go_wp2_with fail
  refine (H2.out _ HB).mono ?_
  rintro e w2 ⟨rfl, hv⟩
  dsimp only
  replace HB := bel_step HB hv
  have p0 := keep_cell hv p0
  have p1 := keep_cell hv p1
  clear hv H2
  go_wp2_with fail
  refine (H3.out _ HB).mono ?_
  rintro e w3 ⟨v3, rfl, hO3, hv⟩
  obtain ⟨A3, c3, rfl, P3, hg3⟩ := OwnP.form hO3
  dsimp only at P3 ⊢
  replace HB := bel_step HB hv
  have p0 := keep_cell hv p0
  have p1 := keep_cell hv p1
  clear hO3 H3 hv
  by_cases he : e1 = 0
  ·obtain ⟨hm0, hmn⟩ := HC.out he
   subst he
   obtain ⟨gh, rfl, _⟩ := hg3 (by dsimp only; omega)
   obtain ⟨m, hm⟩ : ∃ m, H.length = m := ⟨_, rfl⟩
   rw [hm] at hm0 hmn ⊢
   obtain ⟨r, s, k, f1, f2, f3, f4, k1, k2, k3⟩ := turn_num2 (t := tn) hm0 (by omega)
   have hmz : ¬ (m : Int) = 0 := by omega
   have hmz2 : ¬ m = 0 := by omega
   have hcap := hm ▸ P3.cap
   have hcmx := P3.max
   have hDr := hid fun (W : World) (hb : Below w3.heap.size w3 W) => (P3.below hb).drop k (by omega)
   have hTk := hid fun (W : World) (hb : Below w3.heap.size w3 W) => (P3.below hb).taken k
   have hdl : (H.drop k).length = m - k := by simp; omega
   have htl : (H.take k).length = k := by simp; omega
   have hrl : (H.drop k ++ H.take k).length = m := by simp; omega
   have hl1 : ([] : List (Int × Int)).length + (H.drop k).length ≤ 1000000 := by simp; omega
   have hl2 : (H.drop k).length + (H.take k).length ≤ 1000000 := by simp; omega
   have hki : (k : Int) ≤ (m : Int) := by omega
   have hki2 : (k : Int) ≤ (c3 : Int) := by omega
   have hkc : ¬ c3 = k := by omega
   simp only [Nat.zero_add] at hDr
   replace hdl := hid hdl
   replace htl := hid htl
   replace hrl := hid hrl
   clear hm P3 hg3 HC
   have hO0 := OwnP.made0 (w := w3) (base := w3.heap.size) (Nat.le_refl _)
   have hB0 := (Below.refl w3.heap.size w3).alloc (Nat.le_refl _) (.cells #[] 24)
   go_upto_region 11 with fail
   clear f1 f2 f3 k1 k2
   go_region_held3 (fun w' => w'.cell? ⟨w.heap.size, 0, none⟩ = some (.int .i64 x) ∧ w'.cell? ⟨w.heap.size, 1, none⟩ = some (.int .i64 y)) (first | ((try dsimp only); repeat' (first | with_reducible assumption | apply And.intro | (with_reducible refine keep_alloc ?_) | (with_reducible refine keep_drew ?_) | (with_reducible refine keep_set (by omega) ?_) | (with_reducible refine keep_sets (by omega) ?_) | (with_reducible refine keep_cell (W := w3) ?_ ?_) | fail))) (first | (refine step_appE rfl (.tmp 56) (.tmp 59) rfl w3.heap.size _ [] rfl (hO0.below BG) gh (k * 2) (m - k) (c3 - k) (H.drop k) rfl hdl.out (hDr.out _ BG) hl1 (by simp) ?_; intro v5 w5 hO5 hgr5; have qv5 : Below w3.heap.size w3 w5 := Below.grown (a := w3) BG hgr5 (by simp) (fun b e => (World.ownsRow.lt (hO0.below BG) b e).1); rw [List.nil_append] at hO5) | (refine step_appE rfl (.tmp 60) (.tmp 63) rfl w3.heap.size _ (H.drop k) rfl (hO5.below BG) gh 0 k c3 (H.take k) rfl htl.out (hTk.out _ BG) hl2 (by have := qv5.size; simp; omega) ?_; intro v6v w6 hO6 hgr; have qv6 : Below w3.heap.size w3 w6 := Below.grown (a := w3) BG hgr (by have := qv5.size; simp; omega) (fun b e => (World.ownsRow.lt (hO5.below BG) b e).1); obtain ⟨A6, c6, hv6, P6, _⟩ := OwnP.form hO6; rw [hrl.out] at hv6; subst hv6))
   all_goals
    have p0 := keep_cell qv6 p0
    have p1 := keep_cell qv6 p1
    replace HB := bel_step HB qv6
    obtain ⟨R, hR⟩ : ∃ R, H.drop k ++ H.take k = R := ⟨_, rfl⟩
    rw [hR] at P6 hrl
    obtain ⟨⟨fb, fe⟩, hF⟩ : ∃ E, insE R (x, y) = E := ⟨_, rfl⟩
    have H4 := hid fun (W : World) (hb : Below w6.heap.size w6 W) => (show Calls Tryz.prog 5 #[.slice A6 m c6, .agg #[.int .i64 x, .int .i64 y]] W (RetBI W (fb, fe)) from by rw [← hrl.out, ← hF]; exact GInside_g R A6 c6 (x, y) (P6.below hb))
    have H5 := hid fun (W : World) (hb : Below w6.heap.size w6 W) => (show Calls Tryz.prog 6 #[.slice A6 m c6, .agg #[.int .i64 x, .int .i64 y]] W (RetBI W (fb, fe)) from by rw [← hrl.out, ← hF]; exact RInside_g R A6 c6 (x, y) (P6.below hb))
    clear hDr hTk hdl htl hrl hR hO0 hO5 hO6 hgr hgr5 qv5 qv6 hB0 hl1 hl2 P6 hF
    go_wp2_with fail
    refine (H4.out _ (Below.refl _ _)).mono ?_
    rintro e w7 ⟨rfl, hv⟩
    dsimp only
    replace HB := bel_step HB hv
    have p0 := keep_cell hv p0
    have p1 := keep_cell hv p1
    go_wp2_with fail
    refine (H5.out _ hv).mono ?_
    rintro e w8 ⟨rfl, hv8⟩
    dsimp only
    replace HB := bel_step HB hv8
    clear hv hv8 H4 H5 p0 p1
    go_wp2_with fail
    refine (H0.out _).mono ?_
    rintro e w9 ⟨rfl, hv⟩
    replace HB := bel_step HB hv
    clear hv
    go_wp2
    go_ret
    exact ⟨rfl, HB⟩
  ·clear HC hg3 P3
   go_wp2_with fail
   refine (H0.out _).mono ?_
   rintro e w9 ⟨rfl, hv⟩
   replace HB := bel_step HB hv
   clear hv
   go_wp2
   go_ret
   exact ⟨rfl, HB⟩
end Go.Proofs.YtglailcfgcdagaaGreat
