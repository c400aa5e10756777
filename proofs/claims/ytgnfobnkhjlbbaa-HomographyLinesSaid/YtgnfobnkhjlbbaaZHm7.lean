/- Homographies: walk of determinant (package). Conditions: none. -/
import Derived.Test.YtgnfobnkhjlbbaaZHm4
import Derived.Test.YtgnfobnkhjlbbaaZYQ
set_option linter.unusedVariables false
set_option linter.unusedSimpArgs false
namespace Go.Proofs.Ytgnfobnkhjlbbaa
open Go.RowKit Big

theorem map9 {l : List ZE} {a b c d e f g h i : Int} (hm : l.map (·.z) = [a, b, c, d, e, f, g, h, i]) : ∃ e0 e1 e2 e3 e4 e5 e6 e7 e8 : ZE, l = [e0, e1, e2, e3, e4, e5, e6, e7, e8] ∧ e0.z = a ∧ e1.z = b ∧ e2.z = c ∧ e3.z = d ∧ e4.z = e ∧ e5.z = f ∧ e6.z = g ∧ e7.z = h ∧ e8.z = i := by
  have hl : l.length = 9 := by simpa using congrArg List.length hm
  obtain ⟨e0, e1, e2, e3, e4, e5, e6, e7, e8, rfl⟩ := nine l hl
  simp only [List.map_cons, List.map_nil, List.cons.injEq, and_true] at hm
  exact ⟨e0, e1, e2, e3, e4, e5, e6, e7, e8, rfl, hm⟩
set_option maxRecDepth 100000 in
set_option maxHeartbeats 8000000 in
theorem Hdeterminant_g (l : List ZE) (hl : l.length = 9) {w : World} (hok : ∀ e ∈ l, e.ok w) {k : Nat} (hk : 3 * k + 3 ≤ 16384) (hb : ∀ e ∈ l, Bz k e.z) {b : Bool} {n : Nat} {xs : List Nat} (I : Iz (detZ (l.map (·.z))) b n xs) :
    Calls Try.prog 54 #[.agg (cellsM l).toArray] w (GZ w b n xs) := by
  have hi := hid (show (Try.prog.info? 55).map (·.size) = some (cellsM l).length by rw [cellsM_len, hl]; kernel_rfl)
  have hi2 := hid (show (Try.prog.info? 55).map (·.size) = some 18 by kernel_rfl)
  have HA := hid fun (w1 : World) (h : Below w.heap.size w w1) => Hadjugate_g l hl (w := w1) (fun e he => (hok e he).below h) (k := k) (by omega) hb
  have hOK := hid fun (w1 : World) (h : Below w.heap.size w w1) e (he : e ∈ l) => (hok e he).below h
  have hB := hid hb
  have II := hid I
  obtain ⟨a0, a1, a2, a3, a4, a5, a6, a7, a8, hle⟩ := nine l hl
  have HL := hid hle
  clear I hok hb hle
  go_enter Try.func54, Try.ntmps54
  go_upto_region 1 with fail
  refine enterR2 (P := fun u => Code.wp _ _ _ _ u) (c1 := [.bool false, .slice none 0 0]) ?_
  intro u HB r0 r1 zn0 zn1 hsz
  clear hsz
  go_wp2_with (first | refine wpList_load_mid (by rfl) _ _ (by rfl) w.heap.size 0 (by rfl) (cellsM l) _ r0 T55u (by rfl) hi.out ?_ | fail)
  refine (HA.out _ HB).mono ?_
  rintro e w1 ⟨l', rfl, hz, hok', h1⟩
  have hl' : l'.length = 9 := by rw [← List.length_map (·.z), hz, adjZ_len (by simpa using hl)]
  have F1 := store_new (w := w1) hl' _ hi2.out
  have h18 : (cellsM l').length = 18 := by rw [cellsM_len, hl']
  go_wp2_with fail
  refine enterR (P := fun u => Code.wp _ _ _ _ u) ?_
  intro v hbv q0 qz hsz
  clear hsz F1 HA
  have HBv := bel_step HB (bel_step h1 hbv)
  have r0 := rng_below r0 (bel_step h1 hbv)
  have s0 : v.cell? ⟨w.heap.size + 1, 0, none⟩ = some (.bool false) := rng_below r1 (bel_step h1 hbv) 0 _ rfl
  have s1 : v.cell? ⟨w.heap.size + 1, 1, none⟩ = some (.slice none 0 0) := rng_below r1 (bel_step h1 hbv) 1 _ rfl
  have zn1 := zn1.below (bel_step h1 hbv)
  have hok2 : ∀ e ∈ l', e.ok v := fun e he => (hok' e he).below hbv
  have hok3 := hOK.out v HBv
  have hB := hB.out
  have hBa := adjZ_bz (m := l.map (·.z)) (by simpa using hl) (k := k) (by intro x hx; obtain ⟨e, he, rfl⟩ := List.mem_map.1 hx; exact hB e he)
  obtain rfl := HL.out
  obtain ⟨e0, e1, e2, e3, e4, e5, e6, e7, e8, rfl, i0, i1, i2, i3, i4, i5, i6, i7, i8⟩ := map9 hz
  have b0 := hB a0 (by simp)
  have b1 := hB a1 (by simp)
  have b2 := hB a2 (by simp)
  simp only [List.map_cons, List.map_nil, adjZ] at hBa
  rw [all9] at hBa
  obtain ⟨d0, d1, d2, d3, d4, d5, d6, d7, d8⟩ := hBa
  rw [← i0] at d0
  rw [← i3] at d3
  rw [← i6] at d6
  have hD : a0.z * e0.z + a1.z * e3.z + a2.z * e6.z = detZ ([a0, a1, a2, a3, a4, a5, a6, a7, a8].map (·.z)) := by rw [i0, i3, i6]; rfl
  have hk2 : k + (2 * k + 1) ≤ 16384 := by omega
  have hF : fits (detZ ([a0, a1, a2, a3, a4, a5, a6, a7, a8].map (·.z))) := hD ▸ (Bz.dot b0 b1 b2 d0 d3 d6).ft (by omega)
  have HD := hid fun (w2 : World) (h : Below v.heap.size v w2) (g' : Nat) (hr : w2.rangeAt g' 0 (cellsM [e0, e3, e6])) (ca cb : Nat) => Hdot_g (w := w2) (ca := ca) (cb := cb) (rng_below (rng_mid [] [a0, a1, a2] [a3, a4, a5, a6, a7, a8] r0) h) hr ((hok3 a0 (by simp)).below h) ((hok3 a1 (by simp)).below h) ((hok3 a2 (by simp)).below h) ((hok2 e0 (by simp)).below h) ((hok2 e3 (by simp)).below h) ((hok2 e6 (by simp)).below h) (b0.ft (by omega)) (b1.ft (by omega)) (b2.ft (by omega)) (d0.ft (by omega)) (d3.ft (by omega)) (d6.ft (by omega)) ((b0.mul d0).ft hk2) ((b1.mul d3).ft hk2) ((b2.mul d6).ft hk2) (((b0.mul d0).add (b1.mul d3)).ft (by omega)) hF hD II.out
  have lv := cell_lt (q0 0 _ rfl)
  have c0 : v.cell? ⟨w1.heap.size, 0, none⟩ = some (.bool e0.b) := q0 0 _ rfl
  have c1 : v.cell? ⟨w1.heap.size, 1, none⟩ = some (.slice e0.A e0.n e0.c) := q0 1 _ rfl
  have c2 : v.cell? ⟨w1.heap.size, 6, none⟩ = some (.bool e3.b) := q0 6 _ rfl
  have c3 : v.cell? ⟨w1.heap.size, 7, none⟩ = some (.slice e3.A e3.n e3.c) := q0 7 _ rfl
  have c4 : v.cell? ⟨w1.heap.size, 12, none⟩ = some (.bool e6.b) := q0 12 _ rfl
  have c5 : v.cell? ⟨w1.heap.size, 13, none⟩ = some (.slice e6.A e6.n e6.c) := q0 13 _ rfl
  have hlt : w.heap.size + 1 < w1.heap.size := Nat.lt_of_lt_of_le (cell_lt (r1 0 _ rfl)) h1.size
  clear hF hD b0 b1 b2 d0 d1 d2 d3 d4 d5 d6 d7 d8 i0 i1 i2 i3 i4 i5 i6 i7 i8 hB hOK hok2 hok3 hok' hz q0 r0 r1 qz zn0 h18 hl hl'
  obtain ⟨z0, bb0, n0, x0, A0, g0⟩ := e0
  obtain ⟨z3, bb3, n3, x3, A3, g3⟩ := e3
  obtain ⟨z6, bb6, n6, x6, A6, g6⟩ := e6
  dsimp only at *
  simp only [cellsM, ZE.cells, List.cons_append, List.nil_append] at HD
  go_region_held3 (fun w' => (w'.cell? ⟨w1.heap.size, 0, none⟩ = some (.bool bb0) ∧ w'.cell? ⟨w1.heap.size, 1, none⟩ = some (.slice A0 n0 g0)) ∧ (w'.cell? ⟨w1.heap.size, 6, none⟩ = some (.bool bb3) ∧ w'.cell? ⟨w1.heap.size, 7, none⟩ = some (.slice A3 n3 g3)) ∧ (w'.cell? ⟨w1.heap.size, 12, none⟩ = some (.bool bb6) ∧ w'.cell? ⟨w1.heap.size, 13, none⟩ = some (.slice A6 n6 g6))) (first | ((try dsimp only); repeat' (first | with_reducible assumption | apply And.intro | (with_reducible refine keep_alloc ?_) | (with_reducible refine keep_drew ?_) | (with_reducible refine keep_set (by omega) ?_) | (with_reducible refine keep_sets (by omega) ?_) | (with_reducible refine keep_cell (W := v) ?_ ?_) | fail))) ((go_at_call 32; (refine (HD.out _ ?hb _ ?hr _ _).mono ?hm); (case hb => exact BG); (case hr => exact rng_alloc); rintro e y5 ⟨R5, c5', rfl, m5, hq_⟩; have qy5 : Below v.heap.size v y5 := bel_step BG hq_; have s0 := keep_cell qy5 s0; have s1 := keep_cell qy5 s1; have zn1 := zn1.below qy5; have f_zn1 := zn1.fr))
  all_goals
    have HB := bel_step HBv qy5
    go_wp2
    refine bodyPost_ret (v := .agg #[.bool b, .slice R5 n c5']) ?_ rfl ?_
    · simp [results, Try.results54, go_sem, s0, s1]
    · obtain ⟨j1_, j2_⟩ := fin_i m5 HB (by omega) s0 s1 (.bool b) (.slice R5 n c5')
      exact ⟨R5, c5', rfl, j1_, j2_⟩
end Go.Proofs.Ytgnfobnkhjlbbaa
