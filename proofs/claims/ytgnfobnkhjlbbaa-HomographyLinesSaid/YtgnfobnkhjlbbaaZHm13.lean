/- Homographies: walk of times (package). Conditions: none. -/
import Derived.Test.YtgnfobnkhjlbbaaZHm7
import Derived.Test.YtgnfobnkhjlbbaaZYS
set_option linter.unusedVariables false
set_option linter.unusedSimpArgs false
namespace Go.Proofs.Ytgnfobnkhjlbbaa
open Go.RowKit Big

set_option maxRecDepth 100000 in
set_option maxHeartbeats 8000000 in
theorem Htimes_g (la lb : List ZE) (ha : la.length = 9) (hb : lb.length = 9) {w : World} (oka : ∀ e ∈ la, e.ok w) (okb : ∀ e ∈ lb, e.ok w) {k m : Nat} (hk : k + m + 2 ≤ 16384) (ba : ∀ e ∈ la, Bz k e.z) (bb : ∀ e ∈ lb, Bz m e.z) :
    Calls Try.prog 23 #[.agg (cellsM la).toArray, .agg (cellsM lb).toArray] w (RetM w (mulZ (la.map (·.z)) (lb.map (·.z)))) := by
  have hml : (mulZ (la.map (·.z)) (lb.map (·.z))).length = 9 := mulZ_len (by simpa using ha) (by simpa using hb)
  have hat := fun x y hx hy => mulZ_el ha hb (x := x) (y := y) hx hy
  have hbz := mulZ_bz (k := k) (l := m) (m := la.map (·.z)) (n := lb.map (·.z)) (by simpa using ha) (by simpa using hb) (by intro z hz; obtain ⟨e, he, rfl⟩ := List.mem_map.1 hz; exact ba e he) (by intro z hz; obtain ⟨e, he, rfl⟩ := List.mem_map.1 hz; exact bb e he)
  generalize mulZ (la.map (·.z)) (lb.map (·.z)) = zs at *
  go_enter Try.func23, Try.ntmps23
  go_upto_region 1 with fail
  refine enterR3 (P := fun u => Code.wp _ _ _ _ u) ?_
  intro u HB r0 r1 r2 zn0 zn1 zn2 hsz
  have r2 : u.rangeAt (w.heap.size + 1 + 1) 0 (cellsM zeros9) := r2
  have hmk := make9 u
  go_upto_region 2 with fail
  clear hmk
  refine enterR (P := fun u => Code.wp _ _ _ _ u) ?_
  intro v hv q0 zq hsz2
  have hlt := zn2.lt
  have hF : Fil w [(w.heap.size, cellsM la), (w.heap.size + 1, cellsM lb), (w.heap.size + 1 + 1, cellsM zeros9)] u.heap.size (sofar zs 0) v := ⟨bel_step HB hv, by
    intro p hp
    simp only [List.mem_cons, List.not_mem_nil, or_false] at hp
    rcases hp with rfl | rfl | rfl
    · exact ⟨rng_below r0 hv, zn0.below hv, by dsimp only; omega⟩
    · exact ⟨rng_below r1 hv, zn1.below hv, by dsimp only; omega⟩
    · exact ⟨rng_below r2 hv, zn2.below hv, by dsimp only; omega⟩, zq, by omega, zeros9, q0, fun e he => by rw [List.eq_of_mem_replicate he]; exact ZE.zero_ok _, by rw [sofar_none, hml]; rfl⟩
  obtain ⟨g3, hg3⟩ : ∃ g3, g3 = u.heap.size := ⟨_, rfl⟩
  rw [← hg3] at hF hlt ⊢
  clear hg3 r0 r1 r2 zn0 zn1 zn2 hsz q0 zq hsz2 hv HB
  go_wp2
  go_loopw [10] (fun s10 wr => ∃ y : Nat, y ≤ 3 ∧ s10 = .int .i64 y ∧ Fil w [(w.heap.size, cellsM la), (w.heap.size + 1, cellsM lb), (w.heap.size + 1 + 1, cellsM zeros9)] g3 (sofar zs (3 * y)) wr) (fun s10 _ => 3 - (intOf s10).toNat)
  case atStart => exact ⟨0, by omega, rfl, hF⟩
  case round =>
    obtain ⟨y, hy, rfl, hS⟩ := hrel
    clear hF
    by_cases hy3 : y < 3
    · have hyi : (y : Int) < 3 := by omega
      have hsub : 3 * y + 3 - 3 * y = 3 := by omega
      have hsub2 : (3 * (y : Int) + 3 - 3 * (y : Int)) = 3 := by omega
      go_wp2
      rw [hsub]
      go_loopw [22, 7] (fun s22 s7 wr => ∃ x : Nat, x ≤ 3 ∧ s22 = .int .i64 x ∧ s7 = .slice (some ⟨g3, 3 * y * 2, none⟩) x 3 ∧ Fil w [(w.heap.size, cellsM la), (w.heap.size + 1, cellsM lb), (w.heap.size + 1 + 1, cellsM zeros9)] g3 (sofar zs (3 * y + x)) wr) (fun s22 _ _ => 3 - (intOf s22).toNat)
      case atStart => exact ⟨0, by omega, rfl, rfl, hS⟩
      case round =>
        obtain ⟨x, hx, rfl, rfl, hS⟩ := hrel
        by_cases hx3 : x < 3
        · have hxi : (x : Int) < 3 := by omega
          have hel := hat x y hx3 hy3
          obtain ⟨k0, z0, n0⟩ := hS.k (w.heap.size, cellsM la) (by simp)
          obtain ⟨k1, z1, n1⟩ := hS.k (w.heap.size + 1, cellsM lb) (by simp)
          dsimp only at k0 k1 n0 n1 z0 z1
          have a3 := rng_three k0 (i := 3 * y) (by omega)
          obtain ⟨t0, t1⟩ := rng_cell k1 (j := x) (by omega)
          obtain ⟨t2, t3⟩ := rng_cell k1 (j := 3 + x) (by omega)
          obtain ⟨t4, t5⟩ := rng_cell k1 (j := 6 + x) (by omega)
          have oa0 := (oka (la[3 * y]'(by omega)) (List.getElem_mem _)).below hS.b
          have oa1 := (oka (la[3 * y + 1]'(by omega)) (List.getElem_mem _)).below hS.b
          have oa2 := (oka (la[3 * y + 2]'(by omega)) (List.getElem_mem _)).below hS.b
          have ob0 := (okb (lb[x]'(by omega)) (List.getElem_mem _)).below hS.b
          have ob1 := (okb (lb[3 + x]'(by omega)) (List.getElem_mem _)).below hS.b
          have ob2 := (okb (lb[6 + x]'(by omega)) (List.getElem_mem _)).below hS.b
          have ca0 := ba (la[3 * y]'(by omega)) (List.getElem_mem _)
          have ca1 := ba (la[3 * y + 1]'(by omega)) (List.getElem_mem _)
          have ca2 := ba (la[3 * y + 2]'(by omega)) (List.getElem_mem _)
          have cb0 := bb (lb[x]'(by omega)) (List.getElem_mem _)
          have cb1 := bb (lb[3 + x]'(by omega)) (List.getElem_mem _)
          have cb2 := bb (lb[6 + x]'(by omega)) (List.getElem_mem _)
          generalize (la[3 * y]'(by omega)) = a0 at *
          generalize (la[3 * y + 1]'(by omega)) = a1 at *
          generalize (la[3 * y + 2]'(by omega)) = a2 at *
          generalize (lb[x]'(by omega)) = b0 at *
          generalize (lb[3 + x]'(by omega)) = b1 at *
          generalize (lb[6 + x]'(by omega)) = b2 at *
          have hnx := sofar_set' hel
          have hfz := (Bz.dot ca0 ca1 ca2 cb0 cb1 cb2).ft hk
          have hfs := ((ca0.mul cb0).add (ca1.mul cb1)).ft (by omega)
          obtain ⟨zv, hzv⟩ : ∃ zv, a0.z * b0.z + a1.z * b1.z + a2.z * b2.z = zv := ⟨_, rfl⟩
          rw [hzv] at hfz hnx
          obtain ⟨rb, rn, rL, IR⟩ := iz zv
          have HD := hid fun (w2 : World) (h : Below wr.heap.size wr w2) (g' : Nat) (hr : w2.rangeAt g' 0 (cellsM [b0, b1, b2])) (ca cb : Nat) => Hdot_g (w := w2) (ca := ca) (cb := cb) (rng_below a3 h) hr (oa0.below h) (oa1.below h) (oa2.below h) (ob0.below h) (ob1.below h) (ob2.below h) (ca0.ft (by omega)) (ca1.ft (by omega)) (ca2.ft (by omega)) (cb0.ft (by omega)) (cb1.ft (by omega)) (cb2.ft (by omega)) ((ca0.mul cb0).ft (by omega)) ((ca1.mul cb1).ft (by omega)) ((ca2.mul cb2).ft (by omega)) hfs hfz hzv IR.out
          have hlen : (sofar zs (3 * y + x)).length = 9 := by rw [sofar_len _ _ (by omega), hml]
          obtain ⟨ed, _, _, d0, d1⟩ := hS.cell (j := 3 * y + x) (by omega)
          rw [show (3 * y + x) * 2 = 3 * y * 2 + x * 2 by omega] at d0 d1
          have HS := hid hS
          have HN := hid hnx
          have lt1 := cell_lt t0
          have lt3 := cell_lt d0
          have hf3 := hS.zm.fr
          obtain ⟨zb0, bb0, nb0, xb0, Ab0, gb0⟩ := b0
          obtain ⟨zb1, bb1, nb1, xb1, Ab1, gb1⟩ := b1
          obtain ⟨zb2, bb2, nb2, xb2, Ab2, gb2⟩ := b2
          obtain ⟨zd, bd, nd, xd, Ad, gd⟩ := ed
          dsimp only at *
          simp only [cellsM, ZE.cells, List.cons_append, List.nil_append] at HD
          clear hS hel hnx hfz hfs hzv oa0 oa1 oa2 ob0 ob1 ob2 ca0 ca1 ca2 cb0 cb1 cb2 a3 k0 k1 z0 z1 hat hbz ba bb oka okb
          have e1 : IntKind.i64.wrap (3 * (y : Int)) = 3 * (y : Int) := by rw [IntKind.wrap_i64]; omega
          have e2 : IntKind.i64.wrap (3 * (y : Int) + 3) = 3 * (y : Int) + 3 := by rw [IntKind.wrap_i64]; omega
          have e3 : IntKind.i64.wrap (3 + (x : Int)) = 3 + (x : Int) := by rw [IntKind.wrap_i64]; omega
          have e4 : IntKind.i64.wrap (6 + (x : Int)) = 6 + (x : Int) := by rw [IntKind.wrap_i64]; omega
          have p0 : (0 : Int) ≤ (x : Int) := by omega
          have p1 : (0 : Int) ≤ (y : Int) := by omega
          have hn9 : ¬ 9 = 3 * y := by omega
          have p2 : (x : Int) < 9 := by omega
          have q1 : (3 + (x : Int)).toNat = 3 + x := by omega
          have q2 : (6 + (x : Int)).toNat = 6 + x := by omega
          have q3 : (3 * (y : Int)).toNat = 3 * y := by omega
          have q4 : (3 * (y : Int) + 3).toNat = 3 * y + 3 := by omega
          have p3 : (0 : Int) ≤ 3 + (x : Int) := by omega
          have p4 : 3 + (x : Int) < 9 := by omega
          have p5 : (0 : Int) ≤ 6 + (x : Int) := by omega
          have p6 : 6 + (x : Int) < 9 := by omega
          have p7 : (0 : Int) ≤ 3 * (y : Int) := by omega
          have p8 : 3 * (y : Int) + 3 ≤ 9 := by omega
          have p9 : 3 * (y : Int) ≤ 3 * (y : Int) + 3 := by omega
          have pa : (0 : Int) ≤ 3 * (y : Int) + 3 := by omega
          have pb : 3 * (y : Int) ≤ 9 := by omega
          go_wp2_with fail
          go_region_held3 (fun w' => (w'.cell? ⟨w.heap.size + 1, x * 2, none⟩ = some (.bool bb0) ∧ w'.cell? ⟨w.heap.size + 1, x * 2 + 1, none⟩ = some (.slice Ab0 nb0 gb0)) ∧ (w'.cell? ⟨w.heap.size + 1, (3 + x) * 2, none⟩ = some (.bool bb1) ∧ w'.cell? ⟨w.heap.size + 1, (3 + x) * 2 + 1, none⟩ = some (.slice Ab1 nb1 gb1)) ∧ (w'.cell? ⟨w.heap.size + 1, (6 + x) * 2, none⟩ = some (.bool bb2) ∧ w'.cell? ⟨w.heap.size + 1, (6 + x) * 2 + 1, none⟩ = some (.slice Ab2 nb2 gb2))) (first | ((try dsimp only); repeat' (first | with_reducible assumption | apply And.intro | (with_reducible refine keep_alloc ?_) | (with_reducible refine keep_drew ?_) | (with_reducible refine keep_set (by omega) ?_) | (with_reducible refine keep_sets (by omega) ?_) | (with_reducible refine keep_cell (W := wr) ?_ ?_) | fail))) (first | (go_at_call 32; (with_reducible refine (HD.out _ ?hb _ ?hr _ _).mono ?hm); (case hb => exact BG); (case hr => exact fun j v hv => keep_drew (rng_alloc j v hv)); rintro e y5 ⟨R5, c5', rfl, m5, hq_⟩; have qy5 : Below wr.heap.size wr y5 := bel_step BG hq_; have d0 := keep_cell qy5 d0; have d1 := keep_cell qy5 d1; have hf3 := (HS.out.zm.below qy5).fr) | (refine step_roomP Try.underlying70 info24 rfl (.tmp 25) (.tmp 45) rfl g3 (3 * y * 2) x 3 _ _ (.bool rb) (.slice R5 rn c5') rfl rfl (by omega) (at_alloc0 rfl) (at_alloc1 rfl) rfl rfl (keep_alloc d0) (keep_alloc d1) ((HS.out.zm.below qy5).alloc_.fr) ?_))
          all_goals
            have hb5 : Below wr.heap.size wr (y5.alloc (.cells #[.bool rb, .slice R5 rn c5'] 24)) := bel_step qy5 ((Below.refl _ _).alloc (Nat.le_refl _) _)
            have hF5 := (HS.out.below hb5).set (j := 3 * y + x) (by omega) IR.out m5.alloc
            rw [HN.out, show (3 * y + x) * 2 = 3 * y * 2 + x * 2 by omega] at hF5
            have HF5 := hid hF5
            clear hF5
            go_wp2
            go_roundw
            case rel => exact ⟨x + 1, by omega, by go_num, rfl, HF5.out⟩
            case measure => simp [intOf]; omega
        · obtain rfl : x = 3 := by omega
          have hS' : Fil w [(w.heap.size, cellsM la), (w.heap.size + 1, cellsM lb), (w.heap.size + 1 + 1, cellsM zeros9)] g3 (sofar zs (3 * (y + 1))) wr := hS
          clear hS
          go_wp2
          go_roundw
          case rel => exact ⟨y + 1, by omega, by go_num, hS'⟩
          case measure => simp [intOf]; omega
    · obtain rfl : y = 3 := by omega
      have hS' : Fil w [(w.heap.size, cellsM la), (w.heap.size + 1, cellsM lb), (w.heap.size + 1 + 1, cellsM zeros9)] g3 (sofar zs 9) wr := hS
      rw [show 9 = zs.length from hml.symm, sofar_all] at hS'
      obtain ⟨lm, e2, e3, e4⟩ := hS'.ex
      obtain ⟨k2, z2, n2⟩ := hS'.k (w.heap.size + 1 + 1, cellsM zeros9) (by simp)
      dsimp only at k2 z2
      have e1 : lm.length = 9 := by rw [← List.length_map (·.z), e4, hml]
      have hi18 := hid (show (Try.prog.info? 55).map (·.size) = some (cellsM lm).length by rw [cellsM_len, e1]; kernel_rfl)
      obtain ⟨G1, G2, G3, G4⟩ := fin_N (w := w) (l := lm) (cs := zeros9) T55u rfl hi18.out hS'.b (by omega) k2 z2 (by rw [e1]; rfl) e3
      have HF := hid (And.intro e4 (And.intro G3 G4))
      have h18 : (cellsM lm).length = 18 := by rw [cellsM_len, e1]
      clear e1 e3 e4 G3 G4 hS hS' k2 z2 n2
      have hat9 := array_at9 wr g3
      go_wp2_with (first | refine wpList_load_mid (by rfl) _ _ (by rfl) g3 0 (by rfl) (cellsM lm) _ e2 T55u (by rfl) hi18.out ?_ | fail)
      refine bodyPost_ret (v := .agg (cellsM lm).toArray) ?_ rfl ?_
      · simp [results, Try.results23, Sem.run_bind, asAddr, G2]
      · exact ⟨lm, rfl, HF.out.1, HF.out.2.2, HF.out.2.1⟩
end Go.Proofs.Ytgnfobnkhjlbbaa
