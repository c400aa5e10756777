/- Homographies, the reference: walk of FromPoints. Conditions: none. -/
import Derived.Test.YtgnfobnkhjlbbaaGreatZYI
import Derived.Test.YtgnfobnkhjlbbaaGreatZHr18
import Derived.Test.YtgnfobnkhjlbbaaGreatZXH
import Derived.Test.YtgnfobnkhjlbbaaGreatZXC
import Derived.Test.YtgnfobnkhjlbbaaGreatZXB
import Derived.Test.YtgnfobnkhjlbbaaGreatZYZ
set_option linter.unusedVariables false
set_option linter.unusedSimpArgs false
namespace Go.Proofs.YtgnfobnkhjlbbaaGreat
open Go.RowKit Big
theorem fpE_ref {fs gs : List Rf} (h8 : fs.length = 8) (h8' : gs.length = 8) (hc : chkZ 8 (fs ++ gs) = 0) (hP : frmB (ptsZ (fs.map Rf.f)) = true) (hQ : frmB (ptsZ (gs.map Rf.f)) = true) : fpE fs gs = resZ (mulZ (frmZ (ptsZ (gs.map Rf.f))) (adjZ (redZ (frmZ (ptsZ (fs.map Rf.f)))))) := by
 rw [fpE_res h8 h8' hc hP hQ]
 have l1 := frmZ_len (ptsZ_len (qs := fs.map Rf.f) (by simpa using h8))
 have l2 := frmZ_len (ptsZ_len (qs := gs.map Rf.f) (by simpa using h8'))
 exact resZ_pr (Pr.mul l2 (adjZ_len l1) (Pr.refl _) (Pr.adj l1 (Pr.red _)))
theorem fpE_sing {fs gs : List Rf} (hc : chkZ 8 (fs ++ gs) = 0) (h : (frmB (ptsZ (fs.map Rf.f)) && frmB (ptsZ (gs.map Rf.f))) = false) : fpE fs gs = (List.replicate 18 0, 24) := by
 unfold fpE
 rw [if_pos hc, h]
 rfl
theorem fpE_bad {fs gs : List Rf} {c : Int} (h0 : c ≠ 0) (hc : chkZ 8 (fs ++ gs) = c) : fpE fs gs = (List.replicate 18 0, c) := by
 unfold fpE
 rw [if_neg (by rw [hc]; exact h0), hc]
theorem chk_inv {m : Nat} {fs : List Rf} {f : Rf} (hf : f ∈ fs) (h : f.v = false) : chkZ m fs = 1 := by
 unfold chkZ
 rw [if_neg]
 rw [Bool.not_eq_true, List.all_eq_false]
 exact ⟨f, hf, by simp [h]⟩
theorem chk_size {m sz : Nat} {fs : List Rf} (hv : fs.all Rf.v = true) (hs : ∀ k, sz ≤ k ↔ ∀ f ∈ fs, f.sz ≤ k) : chkZ m fs = if sz ≤ m then 0 else 4 := by
 unfold chkZ
 rw [if_pos hv]
 have h := hs m
 by_cases hz : sz ≤ m
 ·rw [if_pos hz, if_pos]
  exact List.all_eq_true.2 fun f hf => decide_eq_true (h.1 hz f hf)
 ·rw [if_neg hz, if_neg]
  intro hh
  exact hz (h.2 fun f hf => of_decide_eq_true (List.all_eq_true.1 hh f hf))
theorem HRsz_p (x : Rf) {w : World} (m : x.mg w) : Calls Tryz.prog 37 #[.agg #[.bool x.na, .slice x.A x.xs.length x.ca, .bool x.nb, .slice x.B x.ys.length x.cb]] w (RetI w (x.sz : Int)) := HRsz x m
theorem rng_pt {w : World} {g : Nat} {fs : List Rf} (h : w.rangeAt g 0 (cellsM (zl fs))) {j : Nat} (hj : 2 * j + 1 < fs.length) : w.rangeAt g (j * 8) (cellsM (zl [fs[2 * j], fs[2 * j + 1]])) := by
 have e : fs = fs.take (2 * j) ++ ([fs[2 * j], fs[2 * j + 1]] ++ fs.drop (2 * j + 2)) := by
  conv => lhs; rw [← List.take_append_drop (2 * j) fs]
  rw [List.drop_eq_getElem_cons (by omega), List.drop_eq_getElem_cons (by omega)]
  rfl
 have h2 := h
 rw [e, zl_app, zl_app] at h2
 have := rng_mid (zl (fs.take (2 * j))) (zl [fs[2 * j], fs[2 * j + 1]]) (zl (fs.drop (2 * j + 2))) h2
 rw [zl_len, List.length_take, Nat.min_eq_left (by omega), Nat.zero_add, show 2 * (2 * (2 * j)) = j * 8 by omega] at this
 exact this
theorem take_pt {fs : List Rf} {j : Nat} (hj : 2 * j + 1 < fs.length) : fs.take (2 * (j + 1)) = fs.take (2 * j) ++ [fs[2 * j], fs[2 * j + 1]] := by
 rw [show 2 * (j + 1) = 2 * j + 1 + 1 by omega, List.take_succ_eq_append_getElem hj, List.take_succ_eq_append_getElem (by omega), List.append_assoc]
 rfl
/-- what the loop of FromPoints knows -/
def FpI (fs gs : List Rf) (j sz : Nat) : Prop := (fs.take (2 * j)).all Rf.v = true ∧ (gs.take (2 * j)).all Rf.v = true ∧ ∀ k, sz ≤ k ↔ ∀ f ∈ fs.take (2 * j) ++ gs.take (2 * j), f.sz ≤ k
theorem FpI.start (fs gs : List Rf) : FpI fs gs 0 0 := ⟨rfl, rfl, by intro k; simp⟩
theorem FpI.next {fs gs : List Rf} {j sz : Nat} (h : FpI fs gs j sz) (hj : 2 * j + 1 < fs.length) (hj' : 2 * j + 1 < gs.length) (v0 : fs[2 * j].v = true) (v1 : fs[2 * j + 1].v = true) (v2 : gs[2 * j].v = true) (v3 : gs[2 * j + 1].v = true) :
  FpI fs gs (j + 1) (max (max (max (max sz fs[2 * j].sz) fs[2 * j + 1].sz) gs[2 * j].sz) gs[2 * j + 1].sz) := by
 obtain ⟨h1, h2, h3⟩ := h
 refine ⟨?_, ?_, fun k => ?_⟩
 ·rw [take_pt hj, List.all_append, h1]; simp [v0, v1]
 ·rw [take_pt hj', List.all_append, h2]; simp [v2, v3]
 ·rw [take_pt hj, take_pt hj']
  simp only [Nat.max_le, h3 k, List.mem_append, List.mem_cons, List.not_mem_nil, or_false]
  constructor
  ·rintro ⟨⟨⟨⟨a, b⟩, c⟩, d⟩, e⟩ f ((hf | rfl | rfl) | (hf | rfl | rfl))
   ·exact a f (Or.inl hf)
   ·exact b
   ·exact c
   ·exact a f (Or.inr hf)
   ·exact d
   ·exact e
  ·intro a
   exact ⟨⟨⟨⟨fun f hf => a f (hf.elim (fun h => Or.inl (Or.inl h)) fun h => Or.inr (Or.inl h)), a _ (Or.inl (Or.inr (Or.inl rfl)))⟩, a _ (Or.inl (Or.inr (Or.inr rfl)))⟩, a _ (Or.inr (Or.inr (Or.inl rfl)))⟩, a _ (Or.inr (Or.inr (Or.inr rfl)))⟩
theorem FpI.all {fs gs : List Rf} {sz : Nat} (h : FpI fs gs 4 sz) (h8 : fs.length = 8) (h8' : gs.length = 8) : chkZ 8 (fs ++ gs) = if sz ≤ 8 then 0 else 4 := by
 obtain ⟨h1, h2, h3⟩ := h
 rw [List.take_of_length_le (by omega)] at h1 h2 h3
 rw [List.take_of_length_le (by omega)] at h3
 exact chk_size (by rw [List.all_append, h1, h2]; rfl) h3
set_option maxRecDepth 100000 in
set_option maxHeartbeats 16000000 in
theorem HRFromPoints_g (fs gs : List Rf) (h8 : fs.length = 8) (h8' : gs.length = 8) {w : World} (hm : ∀ f ∈ fs, f.mg w) (hm' : ∀ f ∈ gs, f.mg w) :
  Calls Tryz.prog 9 #[.agg (cellsM (zl fs)).toArray, .agg (cellsM (zl gs)).toArray] w (RetHE w (fpE fs gs)) := by
 have hl : (zl fs).length = 16 := by rw [zl_len, h8]
 have hl' : (zl gs).length = 16 := by rw [zl_len, h8']
 have hi := hid (show (Tryz.prog.info? 29).map (·.size) = some (cellsM (zl fs)).length by rw [cellsM_len, hl]; kernel_rfl)
 have hi' := hid (show (Tryz.prog.info? 29).map (·.size) = some (cellsM (zl gs)).length by rw [cellsM_len, hl']; kernel_rfl)
 have hi18 := hid (show (Tryz.prog.info? 54).map (·.size) = some 18 by kernel_rfl)
 obtain ⟨d28, hU28, row28⟩ := T28u_
 have HM := hid fun (W : World) (h : Below w.heap.size w W) f (hf : f ∈ fs) => (hm f hf).below h
 have HM' := hid fun (W : World) (h : Below w.heap.size w W) f (hf : f ∈ gs) => (hm' f hf).below h
 clear hm hm' hl hl'
 go_enter Tryz.func9, Tryz.ntmps9
 go_upto_region 1 with fail
 refine enterR3 (P := fun u => Code.wp _ _ _ _ u) ?_
 intro u HB r0 q0 r1 zn0 zq zn1 hsz
 have r1 : u.rangeAt (w.heap.size + 1 + 1) 0 (cellsM zeros18) := r1
 have hlt := zn1.lt
 have RL := hid (And.intro r0 (And.intro q0 (And.intro r1 zn1)))
 have hBv := Below.refl u.heap.size u
 have h8 := hid h8
 have h8' := hid h8'
 clear hsz r0 q0 r1 zn0 zq zn1
 go_wp2
 go_loopw [6, 7] (fun s6 s7 wr => ∃ j sz : Nat, j ≤ 4 ∧ s7 = .int .i64 j ∧ s6 = .int .i64 sz ∧ Below u.heap.size u wr ∧ Hid (FpI fs gs j sz)) (fun _ s7 _ => 4 - (intOf s7).toNat)
 case atStart => exact ⟨0, 0, by omega, rfl, rfl, hBv, hid (FpI.start fs gs)⟩
 case round =>
  obtain ⟨j, sz, hj, rfl, rfl, hbl, hI⟩ := hrel
  clear hBv
  have HBr := bel_step HB hbl
  by_cases hj4 : j < 4
  ·have hjf : 2 * j + 1 < fs.length := by rw [h8.out]; omega
   have hjg : 2 * j + 1 < gs.length := by rw [h8'.out]; omega
   have hji : (j : Int) < 4 := by omega
   obtain ⟨r0, q0, r1, zn1⟩ := RL.out
   have f0 := rng_pt (rng_below r0 hbl) hjf
   have g0 := rng_pt (rng_below q0 hbl) hjg
   have m0 := HM.out wr HBr fs[2 * j] (List.getElem_mem _)
   have m1 := HM.out wr HBr fs[2 * j + 1] (List.getElem_mem _)
   have m2 := HM'.out wr HBr gs[2 * j] (List.getElem_mem _)
   have m3 := HM'.out wr HBr gs[2 * j + 1] (List.getElem_mem _)
   have r1 := rng_below r1 hbl
   have zn1 := zn1.below hbl
   have b0 : fs[2 * j].v = false → fpE fs gs = (List.replicate 18 0, 1) := fun h => fpE_bad (by decide) (chk_inv (List.mem_append_left _ (List.getElem_mem _)) h)
   have b1 : fs[2 * j + 1].v = false → fpE fs gs = (List.replicate 18 0, 1) := fun h => fpE_bad (by decide) (chk_inv (List.mem_append_left _ (List.getElem_mem _)) h)
   have b2 : gs[2 * j].v = false → fpE fs gs = (List.replicate 18 0, 1) := fun h => fpE_bad (by decide) (chk_inv (List.mem_append_right _ (List.getElem_mem _)) h)
   have b3 : gs[2 * j + 1].v = false → fpE fs gs = (List.replicate 18 0, 1) := fun h => fpE_bad (by decide) (chk_inv (List.mem_append_right _ (List.getElem_mem _)) h)
   have hN := hI.out.next hjf hjg
   generalize fs[2 * j] = x0 at *
   generalize fs[2 * j + 1] = x1 at *
   generalize gs[2 * j] = x2 at *
   generalize gs[2 * j + 1] = x3 at *
   have hbF := hid fun (h : (x0.v && x1.v) = false) => (by
    rcases Bool.and_eq_false_iff.1 h with h | h
    ·exact b0 h
    ·exact b1 h : fpE fs gs = (List.replicate 18 0, 1))
   have hbG := hid fun (h : (x2.v && x3.v) = false) => (by
    rcases Bool.and_eq_false_iff.1 h with h | h
    ·exact b2 h
    ·exact b3 h : fpE fs gs = (List.replicate 18 0, 1))
   have hN := hid fun (h : (x0.v && x1.v) = true) (h' : (x2.v && x3.v) = true) => hN (Bool.and_eq_true_iff.1 h).1 (Bool.and_eq_true_iff.1 h).2 (Bool.and_eq_true_iff.1 h').1 (Bool.and_eq_true_iff.1 h').2
   have HV := hid fun (W : World) (h : Below wr.heap.size wr W) => HRright_g x0 x1 (w := W) (m0.below h) (m1.below h)
   have HV' := hid fun (W : World) (h : Below wr.heap.size wr W) => HRright_g x2 x3 (w := W) (m2.below h) (m3.below h)
   have HZ0 := hid fun (W : World) (h : Below wr.heap.size wr W) => HRsz_p x0 (m0.below h)
   have HZ1 := hid fun (W : World) (h : Below wr.heap.size wr W) => HRsz_p x1 (m1.below h)
   have HZ2 := hid fun (W : World) (h : Below wr.heap.size wr W) => HRsz_p x2 (m2.below h)
   have HZ3 := hid fun (W : World) (h : Below wr.heap.size wr W) => HRsz_p x3 (m3.below h)
   generalize (x0.v && x1.v) = tf at *
   generalize (x2.v && x3.v) = tg at *
   have hiP := hid (show (Tryz.prog.info? 28).map (·.size) = some (cellsM (zl [x0, x1])).length from T28i8)
   have hiP' := hid (show (Tryz.prog.info? 28).map (·.size) = some (cellsM (zl [x2, x3])).length from T28i8)
   have hBw := Below.refl wr.heap.size wr
   have lt0 := cell_lt (f0 0 _ rfl)
   clear hI m0 m1 m2 m3 b0 b1 b2 b3
   go_wp2_with (first | refine wpList_load_mid (by rfl) _ _ (by rfl) w.heap.size (j * 8) (by rfl) (cellsM (zl [x0, x1])) _ f0 hU28 row28 hiP.out ?_ | fail)
   refine (HV.out wr hBw).mono ?_
   rintro e y1 ⟨rfl, h1⟩
   have g0 := rng_below g0 h1
   cases tf
   ·have HR := hid (hbF.out rfl)
    have r1 := rng_below r1 h1
    have zn1 := zn1.below h1
    have HB := bel_step HBr h1
    clear hbF hbG hN HV' HZ0 HZ1 HZ2 HZ3 f0 g0 RL
    go_upto_region 6 with fail
    have ht := rng_there r1 zn1
    have ho := all_oneCell_toArray (cellsM_one zeros18)
    obtain ⟨d32, u32, row32⟩ := T32u
    obtain ⟨G1, G2, G3, G4⟩ := fin_N (w := w) (l := zeros18) (cs := zeros18) u32 row32 T32i HB (by omega) r1 zn1 rfl (fun e he => by rw [List.eq_of_mem_replicate he]; exact ZE.zero_ok _)
    have HF := hid (And.intro G3 G4)
    clear G1 G3 G4
    go_wp2_with (first | refine wpList_store_mid (by rfl) _ _ _ (by rfl) (w.heap.size + 1 + 1) 0 (cellsM zeros18).toArray (by rfl) (by rfl) ht T32i ho ?_ | fail)
    refine bodyPost_ret (v := .tuple #[.agg (cellsM zeros18).toArray, .int .i64 1]) ?_ rfl ?_
    ·simp [results, Tryz.results9, Sem.run_bind, asAddr, G2]
    ·rw [HR.out]
     exact ⟨zeros18, rfl, rfl, HF.out.2, HF.out.1⟩
   ·have hN := hid (fun h => hN.out rfl h)
    clear hbF
    go_wp2_with (first | refine wpList_load_g (by rfl) _ _ (by rfl) (w.heap.size + 1) (j * 8) (by rfl) (cellsM (zl [x2, x3])) _ g0 hU28 row28 hiP'.out ?_ | fail)
    refine (HV'.out y1 h1).mono ?_
    rintro e y2 ⟨rfl, h2⟩
    have h12 := bel_step h1 h2
    cases tg
    ·have HR := hid (hbG.out rfl)
     have r1 := rng_below r1 h12
     have zn1 := zn1.below h12
     have HB := bel_step HBr h12
     clear hbG hN HV HV' HZ0 HZ1 HZ2 HZ3 f0 g0 RL
     go_upto_region 6 with fail
     have ht := rng_there r1 zn1
     have ho := all_oneCell_toArray (cellsM_one zeros18)
     obtain ⟨d32, u32, row32⟩ := T32u
     obtain ⟨G1, G2, G3, G4⟩ := fin_N (w := w) (l := zeros18) (cs := zeros18) u32 row32 T32i HB (by omega) r1 zn1 rfl (fun e he => by rw [List.eq_of_mem_replicate he]; exact ZE.zero_ok _)
     have HF := hid (And.intro G3 G4)
     clear G1 G3 G4
     go_wp2_with (first | refine wpList_store_mid (by rfl) _ _ _ (by rfl) (w.heap.size + 1 + 1) 0 (cellsM zeros18).toArray (by rfl) (by rfl) ht T32i ho ?_ | fail)
     refine bodyPost_ret (v := .tuple #[.agg (cellsM zeros18).toArray, .int .i64 1]) ?_ rfl ?_
     ·simp [results, Tryz.results9, Sem.run_bind, asAddr, G2]
     ·rw [HR.out]
      exact ⟨zeros18, rfl, rfl, HF.out.2, HF.out.1⟩
    ·have hN := hid (hN.out (by trivial))
     have f0 := rng_below f0 h12
     have g0 := rng_below g0 h2
     have hby := bel_step hbl h12
     have c0 : y2.cell? ⟨w.heap.size, j * 8, none⟩ = some (.bool x0.na) := f0 0 _ rfl
     have c1 : y2.cell? ⟨w.heap.size, j * 8 + 1, none⟩ = some (.slice x0.A x0.xs.length x0.ca) := f0 1 _ rfl
     have c2 : y2.cell? ⟨w.heap.size, j * 8 + 2, none⟩ = some (.bool x0.nb) := f0 2 _ rfl
     have c3 : y2.cell? ⟨w.heap.size, j * 8 + 3, none⟩ = some (.slice x0.B x0.ys.length x0.cb) := f0 3 _ rfl
     have c4 : y2.cell? ⟨w.heap.size, j * 8 + 4, none⟩ = some (.bool x1.na) := f0 4 _ rfl
     have c5 : y2.cell? ⟨w.heap.size, j * 8 + 5, none⟩ = some (.slice x1.A x1.xs.length x1.ca) := f0 5 _ rfl
     have c6 : y2.cell? ⟨w.heap.size, j * 8 + 6, none⟩ = some (.bool x1.nb) := f0 6 _ rfl
     have c7 : y2.cell? ⟨w.heap.size, j * 8 + 7, none⟩ = some (.slice x1.B x1.ys.length x1.cb) := f0 7 _ rfl
     have e0 : y2.cell? ⟨w.heap.size + 1, j * 8, none⟩ = some (.bool x2.na) := g0 0 _ rfl
     have e1 : y2.cell? ⟨w.heap.size + 1, j * 8 + 1, none⟩ = some (.slice x2.A x2.xs.length x2.ca) := g0 1 _ rfl
     have e2 : y2.cell? ⟨w.heap.size + 1, j * 8 + 2, none⟩ = some (.bool x2.nb) := g0 2 _ rfl
     have e3 : y2.cell? ⟨w.heap.size + 1, j * 8 + 3, none⟩ = some (.slice x2.B x2.ys.length x2.cb) := g0 3 _ rfl
     have e4 : y2.cell? ⟨w.heap.size + 1, j * 8 + 4, none⟩ = some (.bool x3.na) := g0 4 _ rfl
     have e5 : y2.cell? ⟨w.heap.size + 1, j * 8 + 5, none⟩ = some (.slice x3.A x3.xs.length x3.ca) := g0 5 _ rfl
     have e6 : y2.cell? ⟨w.heap.size + 1, j * 8 + 6, none⟩ = some (.bool x3.nb) := g0 6 _ rfl
     have e7 : y2.cell? ⟨w.heap.size + 1, j * 8 + 7, none⟩ = some (.slice x3.B x3.ys.length x3.cb) := g0 7 _ rfl
     have lt0 := cell_lt c0
     have lt1 := cell_lt e0
     have HB := h12
     clear f0 g0 hbG HV HV' r1 zn1 RL h1 h2 h12 hiP hiP'
     generalize x0.sz = z0 at *
     generalize x1.sz = z1 at *
     generalize x2.sz = z2 at *
     generalize x3.sz = z3 at *
     generalize x0.xs.length = n0 at *
     generalize x0.ys.length = n1 at *
     generalize x1.xs.length = n2 at *
     generalize x1.ys.length = n3 at *
     generalize x2.xs.length = n4 at *
     generalize x2.ys.length = n5 at *
     generalize x3.xs.length = n6 at *
     generalize x3.ys.length = n7 at *
     go_upto_region 7 with fail
     refine wp_region_held_drew (S := fun w' => (w'.cell? ⟨w.heap.size, j * 8, none⟩ = some (.bool x0.na) ∧ w'.cell? ⟨w.heap.size, j * 8 + 1, none⟩ = some (.slice x0.A n0 x0.ca) ∧ w'.cell? ⟨w.heap.size, j * 8 + 2, none⟩ = some (.bool x0.nb) ∧ w'.cell? ⟨w.heap.size, j * 8 + 3, none⟩ = some (.slice x0.B n1 x0.cb)) ∧ (w'.cell? ⟨w.heap.size, j * 8 + 4, none⟩ = some (.bool x1.na) ∧ w'.cell? ⟨w.heap.size, j * 8 + 5, none⟩ = some (.slice x1.A n2 x1.ca) ∧ w'.cell? ⟨w.heap.size, j * 8 + 6, none⟩ = some (.bool x1.nb) ∧ w'.cell? ⟨w.heap.size, j * 8 + 7, none⟩ = some (.slice x1.B n3 x1.cb)) ∧ (w'.cell? ⟨w.heap.size + 1, j * 8, none⟩ = some (.bool x2.na) ∧ w'.cell? ⟨w.heap.size + 1, j * 8 + 1, none⟩ = some (.slice x2.A n4 x2.ca) ∧ w'.cell? ⟨w.heap.size + 1, j * 8 + 2, none⟩ = some (.bool x2.nb) ∧ w'.cell? ⟨w.heap.size + 1, j * 8 + 3, none⟩ = some (.slice x2.B n5 x2.cb)) ∧ (w'.cell? ⟨w.heap.size + 1, j * 8 + 4, none⟩ = some (.bool x3.na) ∧ w'.cell? ⟨w.heap.size + 1, j * 8 + 5, none⟩ = some (.slice x3.A n6 x3.ca) ∧ w'.cell? ⟨w.heap.size + 1, j * 8 + 6, none⟩ = some (.bool x3.nb) ∧ w'.cell? ⟨w.heap.size + 1, j * 8 + 7, none⟩ = some (.slice x3.B n7 x3.cb))) (by kernel_rfl) ?_ (fun hHeld => ?_)
     ·exact ⟨⟨c0, c1, c2, c3⟩, ⟨c4, c5, c6, c7⟩, ⟨e0, e1, e2, e3⟩, ⟨e4, e5, e6, e7⟩⟩
     refine' tk (i := 0) rfl (by decide +kernel) (Or.inl ⟨by rfl, ?_⟩) (by assumption) (fun _ _ _ h => h) ?_
     rotate_left 1
     ·(intro w_ hSw_; (try dsimp only at hSw_); go_simp; (try with_reducible rfl))
     (try simp only [Act.put, Lp0, Lp1, Lp2])
     refine' tk (i := 1) rfl (by decide +kernel) (Or.inl ⟨by rfl, ?_⟩) (by assumption) (fun _ _ _ h => h) ?_
     rotate_left 1
     ·(intro w_ hSw_; (try dsimp only at hSw_); go_simp; (try with_reducible rfl))
     (try simp only [Act.put, Lp0, Lp1, Lp2])
     refine' tk (i := 2) rfl (by decide +kernel) (Or.inl ⟨by rfl, ?_⟩) (by assumption) (fun _ _ _ h => h) ?_
     rotate_left 1
     ·(intro w_ hSw_; (try dsimp only at hSw_); go_simp; (try with_reducible rfl))
     (try simp only [Act.put, Lp0, Lp1, Lp2])
     refine' tk (i := 3) rfl (by decide +kernel) (Or.inl ⟨by rfl, ?_⟩) (by assumption) (fun _ _ _ h => h) ?_
     rotate_left 1
     ·(intro w_ hSw_; (try dsimp only at hSw_); go_simp; (try with_reducible rfl))
     (try simp only [Act.put, Lp0, Lp1, Lp2])
     refine' tk (i := 4) rfl (by decide +kernel) (Or.inl ⟨by rfl, ?_⟩) (by assumption) (fun _ _ _ h => h) ?_
     rotate_left 1
     ·(intro w_ hSw_; (try dsimp only at hSw_); go_simp; (try with_reducible rfl))
     (try simp only [Act.put, Lp0, Lp1, Lp2])
     refine' tk (i := 6) rfl (by decide +kernel) (Or.inl ⟨by rfl, ?_⟩) (by assumption) (fun _ _ _ h => h) ?_
     rotate_left 1
     ·(intro w_ hSw_; (try dsimp only at hSw_); go_simp; (try with_reducible rfl))
     (try simp only [Act.put, Lp0, Lp1, Lp2])
     refine' tk (i := 7) rfl (by decide +kernel) (Or.inl ⟨by rfl, ?_⟩) (by assumption) (fun _ _ _ h => h) ?_
     rotate_left 1
     ·(intro w_ hSw_; (try dsimp only at hSw_); go_simp; (try with_reducible rfl))
     (try simp only [Act.put, Lp0, Lp1, Lp2])
     refine' tk (i := 8) rfl (by decide +kernel) (Or.inl ⟨by rfl, ?_⟩) (by assumption) (fun _ _ _ h => h) ?_
     rotate_left 1
     ·(intro w_ hSw_; (try dsimp only at hSw_); go_simp; (try with_reducible rfl))
     (try simp only [Act.put, Lp0, Lp1, Lp2])
     refine' tk (i := 9) rfl (by decide +kernel) (Or.inl ⟨by rfl, ?_⟩) (by assumption) (fun _ _ _ h => h) ?_
     rotate_left 1
     ·(intro w_ hSw_; (try dsimp only at hSw_); go_simp; (try with_reducible rfl))
     (try simp only [Act.put, Lp0, Lp1, Lp2])
     refine' tk (i := 11) rfl (by decide +kernel) (Or.inl ⟨by rfl, ?_⟩) (by assumption) (fun _ _ _ h => h) ?_
     rotate_left 1
     ·(intro w_ hSw_; (try dsimp only at hSw_); go_simp; (try with_reducible rfl))
     (try simp only [Act.put, Lp0, Lp1, Lp2])
     refine' tk (i := 12) rfl (by decide +kernel) (Or.inl ⟨by rfl, ?_⟩) (by assumption) (fun _ _ _ h => h) ?_
     rotate_left 1
     ·(intro w_ hSw_; (try dsimp only at hSw_); go_simp; (try with_reducible rfl))
     (try simp only [Act.put, Lp0, Lp1, Lp2])
     refine' tk (i := 13) rfl (by decide +kernel) (Or.inl ⟨by rfl, ?_⟩) (by assumption) (fun _ _ _ h => h) ?_
     rotate_left 1
     ·(intro w_ hSw_; (try dsimp only at hSw_); go_simp; (try with_reducible rfl))
     (try simp only [Act.put, Lp0, Lp1, Lp2])
     refine' tk (i := 14) rfl (by decide +kernel) (Or.inl ⟨by rfl, ?_⟩) (by assumption) (fun _ _ _ h => h) ?_
     rotate_left 1
     ·(intro w_ hSw_; (try dsimp only at hSw_); go_simp; (try with_reducible rfl))
     (try simp only [Act.put, Lp0, Lp1, Lp2])
     refine' tk (i := 16) rfl (by decide +kernel) (Or.inl ⟨by rfl, ?_⟩) (by assumption) (fun _ _ _ h => h) ?_
     rotate_left 1
     ·(intro w_ hSw_; (try dsimp only at hSw_); go_simp; (try with_reducible rfl))
     (try simp only [Act.put, Lp0, Lp1, Lp2])
     refine' tk (i := 17) rfl (by decide +kernel) (Or.inl ⟨by rfl, ?_⟩) (by assumption) (fun _ _ _ h => h) ?_
     rotate_left 1
     ·(intro w_ hSw_; (try dsimp only at hSw_); go_simp; (try with_reducible rfl))
     (try simp only [Act.put, Lp0, Lp1, Lp2])
     refine' tk (i := 18) rfl (by decide +kernel) (Or.inl ⟨by rfl, ?_⟩) (by assumption) (fun _ _ _ h => h) ?_
     rotate_left 1
     ·(intro w_ hSw_; (try dsimp only at hSw_); go_simp; (try with_reducible rfl))
     (try simp only [Act.put, Lp0, Lp1, Lp2])
     refine' tk (i := 19) rfl (by decide +kernel) (Or.inl ⟨by rfl, ?_⟩) (by assumption) (fun _ _ _ h => h) ?_
     rotate_left 1
     ·(intro w_ hSw_; (try dsimp only at hSw_); go_simp; (try with_reducible rfl))
     (try simp only [Act.put, Lp0, Lp1, Lp2])
     refine br1 (i := 5) (by decide +kernel) rfl (fun K hK => ?_)
     go_simp
     (go_at_call 37; (with_reducible refine (HZ0.out _ (bel_step HB BG)).mono ?_); rintro e v1 ⟨rfl, hq_⟩; have qv1 : Below y2.heap.size y2 v1 := bel_step BG hq_)
     (try go_wp2_with fail)
     refine hK.out _ _ ?_ (fun hHeld => ?_)
     ·(first | ((try dsimp only); repeat' (first | with_reducible assumption | apply And.intro | (with_reducible refine keep_alloc ?_) | (with_reducible refine keep_drew ?_) | (with_reducible refine keep_set (by omega) ?_) | (with_reducible refine keep_sets (by omega) ?_) | (with_reducible refine keep_cell (W := y2) ?_ ?_) | fail)))
     clear hK K
     (try simp only [Act.put, Lp0, Lp1, Lp2])
     refine br1 (i := 10) (by decide +kernel) rfl (fun K hK => ?_)
     go_simp
     (go_at_call 37; (with_reducible refine (HZ1.out _ (bel_step HB BG)).mono ?_); rintro e v2 ⟨rfl, hq_⟩; have qv2 : Below y2.heap.size y2 v2 := bel_step qv1 hq_)
     (try go_wp2_with fail)
     refine hK.out _ _ ?_ (fun hHeld => ?_)
     ·(first | ((try dsimp only); repeat' (first | with_reducible assumption | apply And.intro | (with_reducible refine keep_alloc ?_) | (with_reducible refine keep_drew ?_) | (with_reducible refine keep_set (by omega) ?_) | (with_reducible refine keep_sets (by omega) ?_) | (with_reducible refine keep_cell (W := y2) ?_ ?_) | fail)))
     clear hK K
     (try simp only [Act.put, Lp0, Lp1, Lp2])
     refine br1 (i := 15) (by decide +kernel) rfl (fun K hK => ?_)
     go_simp
     (go_at_call 37; (with_reducible refine (HZ2.out _ (bel_step HB BG)).mono ?_); rintro e v3 ⟨rfl, hq_⟩; have qv3 : Below y2.heap.size y2 v3 := bel_step qv2 hq_)
     (try go_wp2_with fail)
     refine hK.out _ _ ?_ (fun hHeld => ?_)
     ·(first | ((try dsimp only); repeat' (first | with_reducible assumption | apply And.intro | (with_reducible refine keep_alloc ?_) | (with_reducible refine keep_drew ?_) | (with_reducible refine keep_set (by omega) ?_) | (with_reducible refine keep_sets (by omega) ?_) | (with_reducible refine keep_cell (W := y2) ?_ ?_) | fail)))
     clear hK K
     (try simp only [Act.put, Lp0, Lp1, Lp2])
     refine br1 (i := 20) (by decide +kernel) rfl (fun K hK => ?_)
     go_simp
     (go_at_call 37; (with_reducible refine (HZ3.out _ (bel_step HB BG)).mono ?_); rintro e v4 ⟨rfl, hq_⟩; have qv4 : Below y2.heap.size y2 v4 := bel_step qv3 hq_)
     (try go_wp2_with fail)
     refine hK.out _ _ ?_ (fun hHeld => ?_)
     ·(first | ((try dsimp only); repeat' (first | with_reducible assumption | apply And.intro | (with_reducible refine keep_alloc ?_) | (with_reducible refine keep_drew ?_) | (with_reducible refine keep_set (by omega) ?_) | (with_reducible refine keep_sets (by omega) ?_) | (with_reducible refine keep_cell (W := y2) ?_ ?_) | fail)))
     clear hK K
     (try simp only [Act.put, Lp0, Lp1, Lp2])
     refine br1 (i := 21) (by decide +kernel) rfl (fun K hK => ?_)
     go_simp
     skip
     (try go_wp2_with fail)
     refine hK.out _ _ ?_ (fun hHeld => ?_)
     ·(first | ((try dsimp only); repeat' (first | with_reducible assumption | apply And.intro | (with_reducible refine keep_alloc ?_) | (with_reducible refine keep_drew ?_) | (with_reducible refine keep_set (by omega) ?_) | (with_reducible refine keep_sets (by omega) ?_) | (with_reducible refine keep_cell (W := y2) ?_ ?_) | fail)))
     clear hK K
     (try simp only [Act.put, Lp0, Lp1, Lp2])
     refine' tk (i := 22) rfl (by decide +kernel) (Or.inl ⟨by rfl, ?_⟩) (by assumption) (fun _ _ _ h => h) ?_
     rotate_left 1
     ·(intro w_ hSw_; (try dsimp only at hSw_); go_simp; (try with_reducible rfl))
     (try simp only [Act.put, Lp0, Lp1, Lp2])
     refine wpAnyH_done (by kernel_rfl) ?_ _
     have hb5 := bel_step hby qv4
     clear HZ0 HZ1 HZ2 HZ3 hHeld
     go_wp2
     go_roundw
     case rel => exact ⟨j + 1, max (max (max (max sz z0) z1) z2) z3, by omega, by go_num, by simp; omega, hb5, hN.out (by trivial)⟩
     case measure => simp [intOf]; omega
  ·have hj4' : (j : Int) = 4 := by omega
   obtain rfl : j = 4 := by omega
   have hck := hI.out.all h8.out h8'.out
   obtain ⟨r0, q0, r1, zn1⟩ := RL.out
   have r0 := rng_below r0 hbl
   have q0 := rng_below q0 hbl
   have r1 := rng_below r1 hbl
   have zn1 := zn1.below hbl
   have HB := HBr
   clear RL HBr hI
   by_cases hz : sz ≤ 8
   ·rw [if_pos hz] at hck
    have hzi : (sz : Int) ≤ 8 := by omega
    have hmf := HM.out wr HB
    have hmg := HM'.out wr HB
    have hva := (chk_parts hck).1
    have hbz := chk_bz (k := 256) hck (by omega) (w := wr) (fun f hf => by
     rcases List.mem_append.1 hf with h | h
     ·exact hmf f h
     ·exact hmg f h)
    obtain ⟨okf, zf⟩ := zl_good fs (fun f hf => hva f (List.mem_append_left _ hf)) hmf
    obtain ⟨okg, zg⟩ := zl_good gs (fun f hf => hva f (List.mem_append_right _ hf)) hmg
    have bf : ∀ f ∈ fs.map Rf.f, Bz 256 f.1 ∧ f.2 < 2 ^ 256 := fun f hf => (hbz f (by rw [List.map_append]; exact List.mem_append_left _ hf)).1.2
    have bg : ∀ f ∈ gs.map Rf.f, Bz 256 f.1 ∧ f.2 < 2 ^ 256 := fun f hf => (hbz f (by rw [List.map_append]; exact List.mem_append_right _ hf)).1.2
    have hpl : (ptsZ (fs.map Rf.f)).length = 12 := ptsZ_len (by rw [List.length_map]; exact h8.out)
    have hpl' : (ptsZ (gs.map Rf.f)).length = 12 := ptsZ_len (by rw [List.length_map]; exact h8'.out)
    have hfb : ∀ z ∈ frmZ (ptsZ (fs.map Rf.f)), Bz 2051 z := frmZ_bz (k := 512) hpl (ptsZ_bz (k := 256) (by rw [List.length_map]; exact h8.out) bf)
    have hfb' : ∀ z ∈ frmZ (ptsZ (gs.map Rf.f)), Bz 2051 z := frmZ_bz (k := 512) hpl' (ptsZ_bz (k := 256) (by rw [List.length_map]; exact h8'.out) bg)
    have hfl := frmZ_len hpl
    have hfl' := frmZ_len hpl'
    have hE := hid fun h h' => fpE_ref h8.out h8'.out hck (fs := fs) (gs := gs) h h'
    have hS := hid fun h => fpE_sing hck (fs := fs) (gs := gs) h
    have HN := hid fun (W : World) (h : Below wr.heap.size wr W) => HRbasis_g (zl fs) (fs.map Rf.f) (by rw [List.length_map]; exact h8.out) zf (w := W) (fun e he => (okf e he).below h) (k := 256) (by omega) bf
    have HN' := hid fun (W : World) (h : Below wr.heap.size wr W) => HRbasis_g (zl gs) (gs.map Rf.f) (by rw [List.length_map]; exact h8'.out) zg (w := W) (fun e he => (okg e he).below h) (k := 256) (by omega) bg
    generalize fpE fs gs = TW at *
    generalize frmB (ptsZ (fs.map Rf.f)) = b1 at *
    generalize frmB (ptsZ (gs.map Rf.f)) = b2 at *
    generalize frmZ (ptsZ (fs.map Rf.f)) = N1 at *
    generalize frmZ (ptsZ (gs.map Rf.f)) = N2 at *
    have hBw := Below.refl wr.heap.size wr
    clear hck hmf hmg hva hbz okf okg zf zg bf bg hpl hpl' HM HM' hz
    go_upto_region 10 with fail
    go_wp2_with (first | refine wpList_load_mid (by rfl) _ _ (by rfl) w.heap.size 0 (by rfl) (cellsM (zl fs)) _ r0 Tryz.underlying29 (by rfl) hi.out ?_ | fail)
    refine (HN.out wr hBw).mono ?_
    rintro e w1 ⟨l1, hl1, rfl, hz1, h1⟩
    have F1 := store_new (w := w1) hl1 _ hi18.out
    have h18 : (cellsM l1).length = 18 := by rw [cellsM_len, hl1]
    have q0 := rng_below q0 h1
    have r1 := rng_below r1 h1
    have zn1 := zn1.below h1
    have hlw := zn1.lt
    clear r0 HN hBw
    go_upto_region 11 with fail
    refine enterR (P := fun u => Code.wp _ _ _ _ u) ?_
    intro v hv p0 pz hsz
    have q0 := rng_below q0 hv
    have r1 := rng_below r1 hv
    have zn1 := zn1.below hv
    have hb1 := bel_step h1 hv
    have hok1 : b1 = true → l1.map (·.z) = N1 ∧ ∀ x ∈ l1, x.ok v := fun h => ⟨(hz1 h).1, fun x hx => ((hz1 h).2 x hx).below hv⟩
    have ltm := pz.lt
    clear hsz F1 hz1 h1 hv
    go_wp2_with (first | refine wpList_load_mid (by rfl) _ _ (by rfl) (w.heap.size + 1) 0 (by rfl) (cellsM (zl gs)) _ q0 Tryz.underlying29 (by rfl) hi'.out ?_ | fail)
    refine (HN'.out v hb1).mono ?_
    rintro e w2 ⟨l2, hl2, rfl, hz2, h2⟩
    have F1 := store_new (w := w2) hl2 _ hi18.out
    have h18' : (cellsM l2).length = 18 := by rw [cellsM_len, hl2]
    have p0 := rng_below p0 h2
    have r1 := rng_below r1 h2
    have zn1 := zn1.below h2
    have hb2 := bel_step hb1 h2
    have hs2 := h2.size
    have hok1' : b1 = true → l1.map (·.z) = N1 ∧ ∀ x ∈ l1, x.ok w2 := fun h => ⟨(hok1 h).1, fun x hx => ((hok1 h).2 x hx).below h2⟩
    clear HN' q0 pz h2 hok1
    go_upto_region 12 with fail
    refine enterR (P := fun u => Code.wp _ _ _ _ u) ?_
    intro v2 hv2 q0 qz hsz
    have p0 := rng_below p0 hv2
    have r1 := rng_below r1 hv2
    have zn1 := zn1.below hv2
    have HB := bel_step HB (bel_step hb2 hv2)
    have hok1 := hid fun (h : b1 = true) => And.intro (hok1' h).1 (fun x hx => ((hok1' h).2 x hx).below hv2)
    have hok2 := hid fun (h : b2 = true) => And.intro (hz2 h).1 (fun x hx => ((hz2 h).2 x hx).below hv2)
    have ltm2 := qz.lt
    clear hsz F1 hz2 hb1 hb2 hv2 hok1' hU28 row28
    cases b1
    ·have HR := hid (hS.out rfl)
     clear hE hS
     go_upto_region 13 with fail
     have ht := rng_there r1 zn1
     have ho := all_oneCell_toArray (cellsM_one zeros18)
     obtain ⟨d32, u32, row32⟩ := T32u
     obtain ⟨G1, G2, G3, G4⟩ := fin_N (w := w) (l := zeros18) (cs := zeros18) u32 row32 T32i HB (by omega) r1 zn1 rfl (fun e he => by rw [List.eq_of_mem_replicate he]; exact ZE.zero_ok _)
     have HF := hid (And.intro G3 G4)
     clear G1 G3 G4
     go_wp2_with (first | refine wpList_store_mid (by rfl) _ _ _ (by rfl) (w.heap.size + 1 + 1) 0 (cellsM zeros18).toArray (by rfl) (by rfl) ht T32i ho ?_ | fail)
     refine bodyPost_ret (v := .tuple #[.agg (cellsM zeros18).toArray, .int .i64 24]) ?_ rfl ?_
     ·simp [results, Tryz.results9, Sem.run_bind, asAddr, G2]
     ·rw [HR.out]
      exact ⟨zeros18, rfl, rfl, HF.out.2, HF.out.1⟩
    ·cases b2
     ·have HR := hid (hS.out rfl)
      clear hE hS
      go_upto_region 13 with fail
      have ht := rng_there r1 zn1
      have ho := all_oneCell_toArray (cellsM_one zeros18)
      obtain ⟨d32, u32, row32⟩ := T32u
      obtain ⟨G1, G2, G3, G4⟩ := fin_N (w := w) (l := zeros18) (cs := zeros18) u32 row32 T32i HB (by omega) r1 zn1 rfl (fun e he => by rw [List.eq_of_mem_replicate he]; exact ZE.zero_ok _)
      have HF := hid (And.intro G3 G4)
      clear G1 G3 G4
      go_wp2_with (first | refine wpList_store_mid (by rfl) _ _ _ (by rfl) (w.heap.size + 1 + 1) 0 (cellsM zeros18).toArray (by rfl) (by rfl) ht T32i ho ?_ | fail)
      refine bodyPost_ret (v := .tuple #[.agg (cellsM zeros18).toArray, .int .i64 24]) ?_ rfl ?_
      ·simp [results, Tryz.results9, Sem.run_bind, asAddr, G2]
      ·rw [HR.out]
       exact ⟨zeros18, rfl, rfl, HF.out.2, HF.out.1⟩
     ·have HR := hid (hE.out rfl rfl)
      clear hE hS
      obtain ⟨m1, o1⟩ := hok1.out rfl
      obtain ⟨m2, o2⟩ := hok2.out rfl
      have e1 : ∀ e ∈ l1, Bz 2051 e.z := fun e he => hfb e.z (m1 ▸ List.mem_map.2 ⟨e, he, rfl⟩)
      have e2 : ∀ e ∈ l2, Bz 2051 e.z := fun e he => hfb' e.z (m2 ▸ List.mem_map.2 ⟨e, he, rfl⟩)
      have HRd := hid fun (W : World) (h : Below v2.heap.size v2 W) => HRreduce_g l1 hl1 (w := W) (fun e he => (o1 e he).below h) (k := 2051) (by omega) e1
      rw [m1] at HRd
      have hrb := redZ_bz hfb
      have hrl : (redZ N1).length = 9 := by rw [redZ_len, hfl]
      have HAd := hid fun (W : World) (l : List ZE) (hz : l.map (·.z) = redZ N1) (ho : ∀ e ∈ l, e.ok W) => (show Calls Tryz.prog 41 #[.agg (cellsM l).toArray] W (RetM W (adjZ (redZ N1))) from by
       rw [← hz]
       exact HRadjugate_g l (by rw [← List.length_map (·.z), hz, hrl]) ho (k := 2051) (by omega) fun e he => hrb e.z (hz ▸ List.mem_map.2 ⟨e, he, rfl⟩))
      have hab := adjZ_bz hrl hrb
      have hal := adjZ_len hrl
      have HPr := hid fun (W : World) (h : Below v2.heap.size v2 W) (l : List ZE) (hz : l.map (·.z) = adjZ (redZ N1)) (ho : ∀ e ∈ l, e.ok W) => (show Calls Tryz.prog 40 #[.agg (cellsM l2).toArray, .agg (cellsM l).toArray] W (RetM W (mulZ N2 (adjZ (redZ N1)))) from by
       rw [← hz, ← m2]
       exact HRproduct_g l2 l hl2 (by rw [← List.length_map (·.z), hz, hal]) (fun e he => (o2 e he).below h) ho (k := 2051) (m := 2 * 2051 + 1) (by omega) e2 fun e he => hab e.z (hz ▸ List.mem_map.2 ⟨e, he, rfl⟩))
      have hmb := mulZ_bz hfl' hal hfb' hab
      have hml := mulZ_len hfl' hal
      have HPa := hid fun (W : World) (l : List ZE) (hz : l.map (·.z) = mulZ N2 (adjZ (redZ N1))) (ho : ∀ e ∈ l, e.ok W) => (show Calls Tryz.prog 39 #[.agg (cellsM l).toArray] W (RetHE W (resZ (mulZ N2 (adjZ (redZ N1))))) from by
       rw [← hz]
       exact HRpack_g l (by rw [← List.length_map (·.z), hz, hml]) ho (k := 2051 + (2 * 2051 + 1) + 2) (by omega) fun e he => hmb e.z (hz ▸ List.mem_map.2 ⟨e, he, rfl⟩))
      have hi3 := hid (show (Tryz.prog.info? 54).map (·.size) = some (cellsM l1).length by rw [h18]; exact hi18.out)
      have hi4 := hid (show (Tryz.prog.info? 54).map (·.size) = some (cellsM l2).length by rw [h18']; exact hi18.out)
      clear hok1 hok2 m1 m2 o1 o2 e1 e2 hfb hfb' hab hal hrb hrl hmb
      go_upto_region 14 with fail
      have HBr := Below.refl v2.heap.size v2
      refine wp_region_held_drew (S := fun w' => w'.rangeAt w2.heap.size 0 (cellsM l2) ∧ w'.rangeAt w1.heap.size 0 (cellsM l1)) (by kernel_rfl) ?_ (fun hHeld => ?_)
      ·exact ⟨q0, p0⟩
      refine tk (i := 0) rfl (by decide +kernel) (yieldsIf_load_mid (by rfl) _ _ (by rfl) (w2.heap.size) (0) (by rfl) (cellsM l2) _ (fun w_ hS_ => hS_.1) RT54 (by first | rfl | assumption) hi4.out) (by assumption) (fun _ _ _ h => h) ?_
      (try simp only [Act.put, Lp0, Lp1, Lp2])
      refine tk (i := 1) rfl (by decide +kernel) (yieldsIf_load_mid (by rfl) _ _ (by rfl) (w1.heap.size) (0) (by rfl) (cellsM l1) _ (fun w_ hS_ => hS_.2) RT54 (by first | rfl | assumption) hi3.out) (by assumption) (fun _ _ _ h => h) ?_
      (try simp only [Act.put, Lp0, Lp1, Lp2])
      refine br1 (i := 2) (by decide +kernel) rfl (fun K hK => ?_)
      go_simp
      (go_at_call 42; (with_reducible refine (HRd.out _ BG).mono ?_); rintro e y1 ⟨l3, rfl, hz3, ok3, hq1⟩; have qv1 : Below v2.heap.size v2 y1 := bel_step BG hq1; have p0 := rng_below p0 qv1; have q0 := rng_below q0 qv1)
      (try go_wp2_with fail)
      refine hK.out _ _ ?_ (fun hHeld => ?_)
      ·exact ⟨q0, p0⟩
      clear hK K
      (try simp only [Act.put, Lp0, Lp1, Lp2])
      refine br1 (i := 3) (by decide +kernel) rfl (fun K hK => ?_)
      go_simp
      (go_at_call 41; (with_reducible refine (HAd.out _ _ hz3 ok3).mono ?_); rintro e y2 ⟨l4, rfl, hz4, ok4, hq2⟩; have qv2 : Below v2.heap.size v2 y2 := bel_step qv1 hq2; have p0 := rng_below p0 hq2; have q0 := rng_below q0 hq2)
      (try go_wp2_with fail)
      refine hK.out _ _ ?_ (fun hHeld => ?_)
      ·exact ⟨q0, p0⟩
      clear hK K
      (try simp only [Act.put, Lp0, Lp1, Lp2])
      refine br1 (i := 4) (by decide +kernel) rfl (fun K hK => ?_)
      go_simp
      (go_at_call 40; (with_reducible refine (HPr.out _ qv2 _ hz4 ok4).mono ?_); rintro e y3 ⟨l5, rfl, hz5, ok5, hq3⟩; have qv3 : Below v2.heap.size v2 y3 := bel_step qv2 hq3; have p0 := rng_below p0 hq3; have q0 := rng_below q0 hq3)
      (try go_wp2_with fail)
      refine hK.out _ _ ?_ (fun hHeld => ?_)
      ·exact ⟨q0, p0⟩
      clear hK K
      (try simp only [Act.put, Lp0, Lp1, Lp2])
      refine br1 (i := 5) (by decide +kernel) rfl (fun K hK => ?_)
      go_simp
      (go_at_call 39; (with_reducible refine (HPa.out _ _ hz5 ok5).mono ?_); rintro e y4 ⟨lh, rfl, hz_, hok_, hq4⟩; have qv4 : Below v2.heap.size v2 y4 := bel_step qv3 hq4; have p0 := rng_below p0 hq4; have q0 := rng_below q0 hq4)
      (try go_wp2_with fail)
      refine hK.out _ _ ?_ (fun hHeld => ?_)
      ·exact ⟨q0, p0⟩
      clear hK K
      (try simp only [Act.put, Lp0, Lp1, Lp2])
      refine' tk (i := 6) rfl (by decide +kernel) (Or.inl ⟨by rfl, ?_⟩) (by assumption) (fun _ _ _ h => h) ?_
      rotate_left 1
      ·(intro w_ hSw_; (try dsimp only at hSw_); go_simp; (try with_reducible rfl))
      (try simp only [Act.put, Lp0, Lp1, Lp2])
      refine' tk (i := 7) rfl (by decide +kernel) (Or.inl ⟨by rfl, ?_⟩) (by assumption) (fun _ _ _ h => h) ?_
      rotate_left 1
      ·(intro w_ hSw_; (try dsimp only at hSw_); go_simp; (try with_reducible rfl))
      (try simp only [Act.put, Lp0, Lp1, Lp2])
      have r1 := rng_below r1 qv4
      have zn1 := zn1.below qv4
      have HB := bel_step HB qv4
      have hl18 : lh.length = 18 := by rw [← List.length_map (·.z), hz_]; exact resZ_len hml
      have ht := rng_there r1 zn1
      rw [show (cellsM zeros18).length = (cellsM lh).toArray.size by rw [List.size_toArray, cellsM_len, cellsM_len, hl18]; rfl] at ht
      have hi36 := hid (show (Tryz.prog.info? 32).map (·.size) = some (cellsM lh).toArray.size by rw [List.size_toArray, cellsM_len, hl18]; exact T32i)
      have hi36' := hid (show (Tryz.prog.info? 32).map (·.size) = some (cellsM lh).length by rw [cellsM_len, hl18]; exact T32i)
      refine wpAnyH_ready (rs := [8]) (by kernel_rfl) (by simp) ?_
      refine' AllReadyH.cons (o := _) (by simp only [List.getElem?_toArray, List.getElem?_cons_succ, List.getElem?_cons_zero]; rfl) (fun K hK => ?_) AllReadyH.nil
      rw [if_pos (by rfl)]
      refine wp_store_mid _ _ _ rfl (w.heap.size + 1 + 1) 0 (cellsM lh).toArray rfl rfl ht hi36.out (all_oneCell_toArray (cellsM_one lh)) ?_
      refine hK.out _ _ ?_ (fun hHeld => ?_)
      ·exact ⟨rng_far q0 (by omega), rng_far p0 (by omega)⟩
      clear hK K
      (try simp only [Act.put, Lp0, Lp1, Lp2])
      refine' tk (i := 9) rfl (by decide +kernel) (Or.inl ⟨by rfl, ?_⟩) (by assumption) (fun _ _ _ h => h) ?_
      rotate_left 1
      ·(intro w_ hSw_; (try dsimp only at hSw_); go_simp; (try with_reducible rfl))
      (try simp only [Act.put, Lp0, Lp1, Lp2])
      refine wpAnyH_done (by kernel_rfl) ?_ _
      obtain ⟨d32, u32, row32⟩ := T32u
      obtain ⟨G1, G2, G3, G4⟩ := fin_N (w := w) (l := lh) (cs := zeros18) u32 row32 hi36'.out HB (by omega) r1 zn1 (by rw [hl18]; rfl) hok_
      have HF := hid (And.intro hz_ (And.intro G3 G4))
      clear G1 G3 G4 hHeld p0 q0 r1 zn1 ht hz_ hok_
      go_wp2
      refine bodyPost_ret (v := .tuple #[.agg (cellsM lh).toArray, .int .i64 (resZ (mulZ N2 (adjZ (redZ N1)))).2]) ?_ rfl ?_
      ·simp [results, Tryz.results9, Sem.run_bind, asAddr, Act.put, G2]
      ·rw [HR.out]
       exact ⟨lh, rfl, HF.out.1, HF.out.2.2, HF.out.2.1⟩
   ·rw [if_neg hz] at hck
    have hzi : (8 : Int) < sz := by omega
    have HR := hid (fpE_bad (by decide) hck)
    clear hck hz
    go_upto_region 9 with fail
    have ht := rng_there r1 zn1
    have ho := all_oneCell_toArray (cellsM_one zeros18)
    obtain ⟨d32, u32, row32⟩ := T32u
    obtain ⟨G1, G2, G3, G4⟩ := fin_N (w := w) (l := zeros18) (cs := zeros18) u32 row32 T32i HB (by omega) r1 zn1 rfl (fun e he => by rw [List.eq_of_mem_replicate he]; exact ZE.zero_ok _)
    have HF := hid (And.intro G3 G4)
    clear G1 G3 G4
    go_wp2_with (first | refine wpList_store_mid (by rfl) _ _ _ (by rfl) (w.heap.size + 1 + 1) 0 (cellsM zeros18).toArray (by rfl) (by rfl) ht T32i ho ?_ | fail)
    refine bodyPost_ret (v := .tuple #[.agg (cellsM zeros18).toArray, .int .i64 4]) ?_ rfl ?_
    ·simp [results, Tryz.results9, Sem.run_bind, asAddr, G2]
    ·rw [HR.out]
     exact ⟨zeros18, rfl, rfl, HF.out.2, HF.out.1⟩
end Go.Proofs.YtgnfobnkhjlbbaaGreat
