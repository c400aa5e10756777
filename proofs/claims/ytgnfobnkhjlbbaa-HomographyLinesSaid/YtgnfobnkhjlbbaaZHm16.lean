/- Homographies: walk of Identity (package). Conditions: none. -/
import Derived.Test.YtgnfobnkhjlbbaaZYP
import Derived.Test.YtgnfobnkhjlbbaaZYS
set_option linter.unusedVariables false
set_option linter.unusedSimpArgs false
namespace Go.Proofs.Ytgnfobnkhjlbbaa
open Go.RowKit Big

def id9 : List Int := [1, 0, 0, 0, 1, 0, 0, 0, 1]
def idc (j : Nat) : List Int := (homZ id9).take (2 * j) ++ List.replicate (18 - 2 * j) 0
theorem idc_len : ∀ j, j ≤ 9 → (idc j).length = 18 := by decide
theorem idc_zero : ∀ j, j < 9 → j % 4 ≠ 0 → ((idc j).set (2 * j) 0).set (2 * j + 1) 1 = idc (j + 1) := by decide
theorem idc_one : ∀ j, j < 9 → j % 4 = 0 → ((((idc j).set (2 * j) 0).set (2 * j + 1) 1).set (2 * j) 1).set (2 * j + 1) 1 = idc (j + 1) := by decide
set_option maxRecDepth 100000 in
set_option maxHeartbeats 8000000 in
theorem HIdentity_g {w : World} : Calls Try.prog 16 #[] w (RetM w (homZ id9)) := by
  obtain ⟨Ib, In, IL, I1⟩ := iz 1
  obtain ⟨Zb, Zn_, ZL, I0⟩ := iz 0
  obtain ⟨d32, u32, row32⟩ := T32u
  have HF0 := hid fun (w1 : World) => FromInt_g (w := w1) I0.out (by omega) (by omega)
  have HF1 := hid fun (w1 : World) => FromInt_g (w := w1) I1.out (by omega) (by omega)
  have HW0 := hid fun (w1 : World) (R : Option Addr) (c : Nat) (m : Mg w1 R c ZL) => Hwhole_g (w := w1) I0.out m I1.out
  have HW1 := hid fun (w1 : World) (R : Option Addr) (c : Nat) (m : Mg w1 R c IL) => Hwhole_g (w := w1) I1.out m I1.out
  go_enter Try.func16, Try.ntmps16
  go_upto_region 2 with fail
  refine enterR2 (P := fun u => Code.wp _ _ _ _ u) ?_
  intro u HB r0 r1 zn0 zn1 hsz
  have hF : Fil w [(w.heap.size, cellsM zeros18)] (w.heap.size + 1) (idc 0) u := ⟨HB, by
    intro p hp
    simp only [List.mem_cons, List.not_mem_nil, or_false] at hp
    subst hp
    exact ⟨r0, zn0, by dsimp only; omega⟩, zn1, by omega, zeros18, r1, fun e he => by rw [List.eq_of_mem_replicate he]; exact ZE.zero_ok _, rfl⟩
  clear r0 r1 zn0 zn1 hsz HB
  go_wp2
  go_loopw [3] (fun s3 wr => ∃ j : Nat, j ≤ 9 ∧ s3 = .int .i64 j ∧ Fil w [(w.heap.size, cellsM zeros18)] (w.heap.size + 1) (idc j) wr) (fun s3 _ => 9 - (intOf s3).toNat)
  case atStart => exact ⟨0, by omega, rfl, hF⟩
  case round =>
    obtain ⟨j, hj, rfl, hS⟩ := hrel
    clear hF
    by_cases h9 : j < 9
    · have h9i : (j : Int) < 9 := by omega
      have hlen := idc_len j hj
      have HS := hid hS
      clear hS
      go_wp2_with fail
      refine (HF0.out _).mono ?_
      rintro e w1 ⟨R1, d1, rfl, m1, h1⟩
      go_wp2_with fail
      refine (HW0.out _ _ _ m1).mono ?_
      rintro e w2 ⟨R2, d2, rfl, m2, m2', h2⟩
      have hb2 := bel_step h1 h2
      have hS2 := HS.out.below hb2
      obtain ⟨b0, A0, n0, c0, b1, A1, n1, c1, t0, t1, t2, t3⟩ := hS2.cellF (j := j) (by omega)
      have f0 := hS2.zm.fr
      have hS3 := hid (hS2.setF (j := j) (by omega) ⟨0, Zb, Zn_, ZL, R1, d1⟩ ⟨1, Ib, In, IL, R2, d2⟩ ⟨I0.out, m2⟩ ⟨I1.out, m2'⟩)
      clear HS hS2
      go_upto_region 6 with fail
      obtain ⟨W, hW⟩ : ∃ W, W = ((((w2.setCell ⟨w.heap.size + 1, j * 4, none⟩ (.bool Zb)).setCell ⟨w.heap.size + 1, j * 4 + 1, none⟩ (.slice R1 Zn_ d1)).setCell ⟨w.heap.size + 1, j * 4 + 2, none⟩ (.bool Ib)).setCell ⟨w.heap.size + 1, j * 4 + 3, none⟩ (.slice R2 In d2)) := ⟨_, rfl⟩
      rw [← hW] at hS3 ⊢
      clear hW t0 t1 t2 t3 f0 m1 m2 m2' h1 h2 hb2
      by_cases h4 : j % 4 = 0
      · have h4i : (j : Int) % 4 = 0 := by omega
        rw [show (0 : Int) = (0 : Int) from rfl] at hS3
        have hN := hid (idc_one j h9 h4)
        go_wp2_with fail
        refine (HF1.out _).mono ?_
        rintro e w3 ⟨R3, d3, rfl, m3, h3⟩
        go_wp2_with fail
        refine (HW1.out _ _ _ m3).mono ?_
        rintro e w4 ⟨R4, d4, rfl, m4, m4', h4_⟩
        have hb4 := bel_step h3 h4_
        have hS4 := hS3.out.below hb4
        have hlen2 : (((idc j).set (2 * j) 0).set (2 * j + 1) 1).length = 18 := by simp [hlen]
        obtain ⟨b0, A0, n0, c0, b1, A1, n1, c1, t0, t1, t2, t3⟩ := hS4.cellF (j := j) (by omega)
        have f0 := hS4.zm.fr
        have hS5 := hid (hS4.setF (j := j) (by omega) ⟨1, Ib, In, IL, R3, d3⟩ ⟨1, Ib, In, IL, R4, d4⟩ ⟨I1.out, m4⟩ ⟨I1.out, m4'⟩)
        clear hS3 hS4
        go_wp2
        go_roundw
        case rel => exact ⟨j + 1, by omega, by go_num, by have := hS5.out; rw [hN.out] at this; exact this⟩
        case measure => simp [intOf]; omega
      · have h4i : ¬ (j : Int) % 4 = 0 := by omega
        have hN := hid (idc_zero j h9 h4)
        go_wp2
        go_roundw
        case rel => exact ⟨j + 1, by omega, by go_num, by have := hS3.out; rw [hN.out] at this; exact this⟩
        case measure => simp [intOf]; omega
    · obtain rfl : j = 9 := by omega
      obtain ⟨lm, e2, e3, e4⟩ := hS.ex
      obtain ⟨k2, z2, n2⟩ := hS.k (w.heap.size, cellsM zeros18) (by simp)
      dsimp only at k2 z2
      have e4' : lm.map (·.z) = homZ id9 := e4
      have e1 : lm.length = 18 := by rw [← List.length_map (·.z), e4']; rfl
      have hi36 := hid (show (Try.prog.info? 32).map (·.size) = some (cellsM lm).length by rw [cellsM_len, e1]; exact T32i)
      have hi36' := hid (show (Try.prog.info? 32).map (·.size) = some (cellsM lm).toArray.size by rw [List.size_toArray, cellsM_len, e1]; exact T32i)
      obtain ⟨G1, G2, G3, G4⟩ := fin_N (w := w) (l := lm) (cs := zeros18) u32 row32 hi36.out hS.b (Nat.le_refl _) k2 z2 (by rw [e1]; rfl) e3
      have HF := hid (And.intro e4' (And.intro G3 G4))
      have ht := rng_there k2 z2
      rw [show (cellsM zeros18).length = (cellsM lm).toArray.size by rw [List.size_toArray, cellsM_len, cellsM_len, e1]; rfl] at ht
      have ho := all_oneCell_toArray (cellsM_one lm)
      clear e1 e3 e4 e4' G1 G3 G4 hS k2 z2 n2
      go_wp2_with (first | refine wpList_load_mid (by rfl) _ _ (by rfl) (w.heap.size + 1) 0 (by rfl) (cellsM lm) _ e2 u32 row32 hi36.out ?_ | refine wpList_store_mid (by rfl) _ _ _ (by rfl) w.heap.size 0 (cellsM lm).toArray (by rfl) (by rfl) ht hi36'.out ho ?_ | fail)
      refine bodyPost_ret (v := .agg (cellsM lm).toArray) ?_ rfl ?_
      · simp [results, Try.results16, Sem.run_bind, asAddr, Act.put, G2]
      · exact ⟨lm, rfl, HF.out.1, HF.out.2.2, HF.out.2.1⟩
end Go.Proofs.Ytgnfobnkhjlbbaa
