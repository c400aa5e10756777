/- Tables: slices.Compact of bands. Conditions: at most 100000000 bands. -/
import Derived.Test.YtjfgklhifhaaoaaZTe3
import Derived.Test.YtjfgklhifhaaoaaZSA
import Derived.Test.YtjfgklhifhaaoaaZPB
set_option linter.unusedVariables false
set_option linter.unusedSimpArgs false
namespace Go.Proofs.Ytjfgklhifhaaoaa
open Go.RowKit
/-- a row that comes back; block row may have changed -/
def RetCp (w : World) (row : Option Nat) (l : List (Int × Int)) (e : Ending) (w' : World) : Prop := ∃ A c, e = .returned (.slice A l.length c) ∧ BdK.Rd w' A c l ∧ w.grownBy w' row
def BD2 (w : World) (b o : Nat) (q : Int × Int) : Prop := w.cell? ⟨b, o, none⟩ = some (.int .i64 q.1) ∧ w.cell? ⟨b, o + 1, none⟩ = some (.int .i64 q.2)
theorem bd2 {w : World} {b o : Nat} {q : Int × Int} (h : BdK.At w b o q) : BD2 w b o q := ⟨h 0 _ rfl, h 1 _ rfl⟩
theorem Dif.all {L : List (Int × Int)} (h : Dif L L.length) : dedP L = L := by
 have := h.ded (Nat.le_refl _)
 rwa [List.take_length] at this
set_option maxRecDepth 100000 in
set_option maxHeartbeats 8000000 in
theorem Cpt_g (L : List (Int × Int)) (v : Value) (base : Nat) {w : World} (hO : BdK.Own w base v L) (hn1 : L.length ≤ 100000000) : Calls Try.prog 54 #[v] w (RetCp w v.ownBlock (dedP L)) := by
 rcases Nat.lt_or_ge L.length 2 with h2 | h2
 ·obtain ⟨A, c, rfl, hr⟩ := hO.rd BdKo
  have e : dedP L = L := Dif.all fun i h1 h2 => by omega
  have hfin := hid (show RetCp w (Value.ownBlock (.slice A L.length c)) (dedP L) (.returned (.slice A L.length c)) w from ⟨A, c, by rw [e], by rw [e]; exact hr, World.grownBy.refl _ _⟩)
  generalize RetCp w (Value.ownBlock (.slice A L.length c)) (dedP L) = Q at *
  obtain ⟨n, hn⟩ : ∃ n, L.length = n := ⟨_, rfl⟩
  rw [hn] at h2 hfin ⊢
  have hi : (n : Int) < 2 := by omega
  clear hr hO e hn hn1
  go_enter Try.func54, Try.ntmps54
  go_wp2
  exact hfin.out
 ·obtain ⟨g, c, rfl, hbg, hR, hc1, hc2⟩ := hO.rw BdKo (by omega)
  obtain ⟨n, hn⟩ : ∃ n, L.length = n := ⟨_, rfl⟩
  have hrd := hid fun (w' : World) (D : List (Int × Int)) (h : BdK.RwR w g D w') (he : dedP L = D) => (show RetCp w (some g) (dedP L) (.returned (.slice (some ⟨g, 0, none⟩) D.length c)) w' from by
   rw [he]
   have hle := dedP_le L
   rw [he] at hle
   exact ⟨_, c, rfl, h.a.rd BdKo (by omega) hc2, h.gb⟩)
  have hat := hid fun (w' : World) (D : List (Int × Int)) (h : BdK.RwR w g D w') (j : Nat) (hj : j < D.length) => (show (w'.cell? ⟨g, j * 2, none⟩ = some (.int .i64 D[j].1) ∧ w'.cell? ⟨g, j * 2 + 1, none⟩ = some (.int .i64 D[j].2)) from bd2 (h.a.at_ BdKo hj))
  have hset := hid fun (w' : World) (D : List (Int × Int)) (h : BdK.RwR w g D w') (j : Nat) (hj : j < D.length) (x : Int × Int) => h.set BdKo hj x
  have hclr := hid fun (w' : World) (D : List (Int × Int)) (h : BdK.RwR w g D w') (k : Nat) (hk : k < D.length) (cc : Nat) => Knd.run_clear BdKo h.a hk Try.zeroValue79 (fun v hv => by simp [BdK, Value.cells] at hv; rcases hv with rfl | rfl <;> rfl) 0 cc
  have hst := hid fun (k : Nat) (h : Dif L k) (h1 : 1 ≤ k) (hk : k < L.length) (he : L[k] = L[k - 1]) => CpI.start h h1 hk he
  have hnx := hid fun (k : Nat) (h : Dif L k) (h1 : 1 ≤ k) (hk : k < L.length) (he : L[k] ≠ L[k - 1]) => Dif.next h h1 hk he
  have hal := hid fun (h : Dif L L.length) => Dif.all h
  have hD1 : Hid (Dif L 1) := Dif.one L
  have hRR : BdK.RwR w g L w := Knd.RwR.refl hR
  show Calls Try.prog 54 #[.slice (some ⟨g, 0, none⟩) L.length c] w (RetCp w (some g) (dedP L))
  generalize RetCp w (some g) (dedP L) = Q at *
  rw [hn] at hn1 h2 hc1 ⊢
  replace hn := hid hn
  have hni : ¬ (n : Int) < 2 := by omega
  clear hR hO
  go_enter Try.func54, Try.ntmps54
  go_wp2
  go_loopw [3] (fun s3 wr => ∃ k : Nat, s3 = .int .i64 (k : Int) ∧ 1 ≤ k ∧ k ≤ n ∧ Hid (Dif L k) ∧ BdK.RwR w g L wr) (fun s3 _ => n - (intOf s3).toNat)
  case atStart => exact ⟨1, rfl, Nat.le_refl _, by omega, hD1, hRR⟩
  case round =>
   clear hRR hD1
   obtain ⟨k, rfl, hk1, hkn, hDk, hR⟩ := hrel
   by_cases hin : k < n
   ·have hii : (k : Int) < (n : Int) := by omega
    have hkl : k < L.length := by have := hn.out; omega
    obtain ⟨f0, f1⟩ := hat.out wr L hR k hkl
    obtain ⟨d0, d1⟩ := hat.out wr L hR (k - 1) (by omega)
    have hs1 := hid fun he => hst.out k hDk.out hk1 hkl he
    have hs2 := hid fun he => hnx.out k hDk.out hk1 hkl he
    have hw1 : IntKind.i64.wrap ((k : Int) - 1) = ((k - 1 : Nat) : Int) := by rw [IntKind.wrap_i64]; omega
    have hiim : ((k - 1 : Nat) : Int) < (n : Int) := by omega
    obtain ⟨x, hx⟩ : ∃ x, L[k] = x := ⟨_, rfl⟩
    obtain ⟨y, hy⟩ : ∃ y, L[k - 1] = y := ⟨_, rfl⟩
    rw [hx] at f0 f1 hs1 hs2
    rw [hy] at d0 d1 hs1 hs2
    replace hx := hid hx
    replace hy := hid hy
    obtain ⟨x0, x1⟩ := x
    obtain ⟨y0, y1⟩ := y
    dsimp only at f0 f1 d0 d1
    obtain ⟨km, hkm⟩ : ∃ z, k - 1 = z := ⟨_, rfl⟩
    have hkg := hid hkm
    rw [hkm] at d0 d1 hw1 hiim
    clear hkm
    by_cases he : x0 = y0 ∧ x1 = y1
    ·obtain ⟨rfl, rfl⟩ := he
     have hC := hid (hs1.out rfl)
     clear hs1 hs2
     go_wp2_with fail
     go_quiet (fail)
     have hv : Below wr.heap.size wr (wr.drewN nq) := below_drewN (Below.refl _ _) _
     generalize wr.drewN nq = w2 at hv ⊢
     replace hR := hR.goes hv
     have hck : ¬ c = k := by omega
     clear f0 f1 d0 d1 hv hw1 hiim hx hy hkg
     go_wp2
     go_loopw [5, 3] (fun s5 s3 wz => ∃ (k2 kk : Nat) (D : List (Int × Int)), s5 = .int .i64 (k2 : Int) ∧ s3 = .int .i64 (kk : Int) ∧ 1 ≤ k2 ∧ k2 ≤ n - k ∧ kk + 1 ≤ k + k2 ∧ Hid (CpI L (k + k2) kk D) ∧ BdK.RwR w g D wz) (fun s5 _ _ => n - k - (intOf s5).toNat)
     case atStart => exact ⟨1, k, L, rfl, rfl, Nat.le_refl _, by omega, Nat.le_refl _, hC, hR⟩
     case round =>
      clear hR hC
      obtain ⟨k2, kk, D, rfl, rfl, hk21, hk22, hkp, hC, hR⟩ := hrel
      have hDl := hC.out.len
      rw [hn.out] at hDl
      by_cases hi2 : k2 < n - k
      ·have hi2i : (k2 : Int) < ((n - k : Nat) : Int) := by omega
       have hpl : k + k2 < L.length := by have := hn.out; omega
       have hql : k + (k2 - 1) < L.length := by have := hn.out; omega
       obtain ⟨hp', ep⟩ := hC.out.at_ hpl (by omega)
       obtain ⟨hq', eq⟩ := hC.out.at_ hql (by omega)
       obtain ⟨f0, f1⟩ := hat.out wr D hR (k + k2) hp'
       obtain ⟨d0, d1⟩ := hat.out wr D hR (k + (k2 - 1)) hq'
       have hkl : kk < D.length := by omega
       obtain ⟨e0, e1⟩ := hat.out wr D hR kk hkl
       have hz := hR.a.z.fr
       rw [Nat.add_mul] at f0 f1 d0 d1
       have hq1 : k + k2 - 1 = k + (k2 - 1) := by omega
       have hs1 := hid fun he => hC.out.skip hpl he
       have hs2 := hid fun he => hC.out.put hpl he
       have hse := hid (hset.out wr D hR kk hkl)
       simp only [hq1] at hs1 hs2
       have hw1 : IntKind.i64.wrap ((k2 : Int) - 1) = ((k2 - 1 : Nat) : Int) := by rw [IntKind.wrap_i64]; omega
       have hiim : ((k2 - 1 : Nat) : Int) < ((n - k : Nat) : Int) := by omega
       rw [ep] at f0 f1
       rw [eq] at d0 d1
       obtain ⟨x, hx⟩ : ∃ x, L[k + k2] = x := ⟨_, rfl⟩
       obtain ⟨y, hy⟩ : ∃ y, L[k + (k2 - 1)] = y := ⟨_, rfl⟩
       rw [hx] at f0 f1 hs1 hs2
       rw [hy] at d0 d1 hs1 hs2
       obtain ⟨x0, x1⟩ := x
       obtain ⟨y0, y1⟩ := y
       dsimp only at f0 f1 d0 d1
       obtain ⟨km, hkm⟩ : ∃ z, k2 - 1 = z := ⟨_, rfl⟩
       rw [hkm] at d0 d1 hw1 hiim
       have hnk : ((n - k : Nat) : Int) ≤ (n : Int) := by omega
       obtain ⟨m, hm⟩ : ∃ m, n - k = m := ⟨_, rfl⟩
       rw [hm] at hi2 hi2i hiim hnk hk22 ⊢
       have hkki : (kk : Int) < (n : Int) := by omega
       have hmg := hid hm
       clear hx hy hkm hq1 hp' hq' ep eq hm
       by_cases he : x0 = y0 ∧ x1 = y1
       ·obtain ⟨rfl, rfl⟩ := he
        have hC2 := hid (hs1.out rfl)
        clear hs1 hs2 hse e0 e1
        go_wp2_with fail
        go_quiet (fail)
        have hv : Below wr.heap.size wr (wr.drewN nq) := below_drewN (Below.refl _ _) _
        generalize wr.drewN nq = w3 at hv ⊢
        replace hR := hR.goes hv
        clear f0 f1 d0 d1 hv hw1 hiim
        go_wp2
        go_roundw
        case rel => exact ⟨k2 + 1, kk, D, by go_num, rfl, by omega, by omega, by omega, hC2, hR⟩
        case measure => simp [intOf]; omega
       ·have hC2 := hid (hs2.out (fun e => he (by injection e with e1 e2; exact ⟨e1, e2⟩)))
        have hse2 := hid fun (W : World) (hb : Below wr.heap.size wr W) => hset.out W D (hR.goes hb) kk hkl (x0, x1)
        clear hs1 hs2 hse
        by_cases hy0 : x0 = y0
        ·have hy1 : ¬ x1 = y1 := fun e => he ⟨hy0, e⟩
         subst hy0
         have hb1 : ((x1 : Int) == y1) = false := beq_eq_false_iff_ne.2 hy1
         clear he
         go_wp2_with fail
         go_quiet (fail)
         have hv : Below wr.heap.size wr (wr.drewN nq) := below_drewN (Below.refl _ _) _
         generalize wr.drewN nq = w3 at hv ⊢
         have e0 := keep_cell hv e0
         have e1 := keep_cell hv e1
         have f0 := keep_cell hv f0
         have f1 := keep_cell hv f1
         have hz := (hR.goes hv).a.z.fr
         have hlt := cell_lt e0
         have hR2 := hid (hse2.out w3 hv)
         clear d0 d1 hv hw1 hiim hR hse2
         go_wp2
         go_roundw
         case rel => exact ⟨k2 + 1, kk + 1, D.set kk (x0, x1), by go_num, by go_num, by omega, by omega, by omega, hC2, hR2.out⟩
         case measure => simp [intOf]; omega
        ·have hb0 : ((x0 : Int) == y0) = false := beq_eq_false_iff_ne.2 hy0
         clear he
         go_wp2_with fail
         go_quiet (fail)
         have hv : Below wr.heap.size wr (wr.drewN nq) := below_drewN (Below.refl _ _) _
         generalize wr.drewN nq = w3 at hv ⊢
         have e0 := keep_cell hv e0
         have e1 := keep_cell hv e1
         have f0 := keep_cell hv f0
         have f1 := keep_cell hv f1
         have hz := (hR.goes hv).a.z.fr
         have hlt := cell_lt e0
         have hR2 := hid (hse2.out w3 hv)
         clear d0 d1 hv hw1 hiim hR hse2
         go_wp2
         go_roundw
         case rel => exact ⟨k2 + 1, kk + 1, D.set kk (x0, x1), by go_num, by go_num, by omega, by omega, by omega, hC2, hR2.out⟩
         case measure => simp [intOf]; omega
      ·have hk2e : k2 = n - k := by omega
       have hpe : k + k2 = n := by omega
       have hi2i : ¬ (k2 : Int) < ((n - k : Nat) : Int) := by omega
       rw [hpe] at hC hkp
       have hC2 : CpI L L.length kk D := by rw [hn.out]; exact hC.out
       obtain ⟨t1, t2⟩ := hC2.done
       have hkl : kk < D.length := by omega
       obtain ⟨w4, hcl, hr4, hg4, hz4⟩ := hclr.out wr D hR kk hkl (c - kk)
       have hfin := hid (hrd.out w4 (D.take kk) ⟨hR.gb.trans hg4, hr4⟩ t1.symm)
       have hcl2 : (Builtin.clear_ #[67] 0 #[.slice (some ⟨g, kk * 2, none⟩) (n - kk) (c - kk)]).run Try.prog wr = .ok (.tuple #[]) w4 := by rw [← hDl]; exact hcl
       have htl : (D.take kk).length = kk := by rw [List.length_take]; omega
       rw [htl] at hfin
       have hck2 : ¬ c = kk := by omega
       have hkn2 : (kk : Int) ≤ (n : Int) := by omega
       have hkc2 : kk ≤ c := by omega
       have hkn3 : kk ≤ n := by omega
       obtain ⟨m, hm⟩ : ∃ m, n - k = m := ⟨_, rfl⟩
       rw [hm] at hi2i ⊢
       clear hC hC2 t1 t2 hcl hr4 hg4 hz4 hR hat hset hclr hst hnx hal hrd hk2e hpe htl hm
       go_wp2
       exact hfin.out
    ·have hD2 := hid (hs2.out (fun e => he (by injection e with e1 e2; exact ⟨e1, e2⟩)))
     clear hs1 hs2
     by_cases hy0 : x0 = y0
     ·have hy1 : ¬ x1 = y1 := fun e => he ⟨hy0, e⟩
      subst hy0
      have hb1 : ((x1 : Int) == y1) = false := beq_eq_false_iff_ne.2 hy1
      clear he
      go_wp2_with fail
      go_quiet (fail)
      have hv : Below wr.heap.size wr (wr.drewN nq) := below_drewN (Below.refl _ _) _
      generalize wr.drewN nq = w2 at hv ⊢
      replace hR := hR.goes hv
      clear f0 f1 d0 d1 hv hw1 hiim hx hy hkg
      go_wp2
      go_roundw
      case rel => exact ⟨k + 1, by go_num, by omega, by omega, hD2, hR⟩
      case measure => simp [intOf]; omega
     ·have hb0 : ((x0 : Int) == y0) = false := beq_eq_false_iff_ne.2 hy0
      clear he
      go_wp2_with fail
      go_quiet (fail)
      have hv : Below wr.heap.size wr (wr.drewN nq) := below_drewN (Below.refl _ _) _
      generalize wr.drewN nq = w2 at hv ⊢
      replace hR := hR.goes hv
      clear f0 f1 d0 d1 hv hw1 hiim hx hy hkg
      go_wp2
      go_roundw
      case rel => exact ⟨k + 1, by go_num, by omega, by omega, hD2, hR⟩
      case measure => simp [intOf]; omega
   ·obtain rfl : n = k := by omega
    have hii : ¬ (n : Int) < (n : Int) := by omega
    have hfin := hid (hrd.out wr L hR (hal.out (by rw [hn.out]; exact hDk.out)))
    rw [hn.out] at hfin
    clear hR hDk hat hset hclr hst hnx hal hrd
    go_wp2
    exact hfin.out
end Go.Proofs.Ytjfgklhifhaaoaa
