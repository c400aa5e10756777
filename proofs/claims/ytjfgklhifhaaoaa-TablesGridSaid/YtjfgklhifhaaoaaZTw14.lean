/- Tables: the bands of a direction; whether neighbours are apart. Conditions: at most 100000 lines. -/
import Derived.Test.YtjfgklhifhaaoaaZTw13
import Derived.Test.YtjfgklhifhaaoaaZPB
set_option linter.unusedVariables false
set_option linter.unusedSimpArgs false
namespace Go.Proofs.Ytjfgklhifhaaoaa
open Go.RowKit
/-- a slice comes back -/
def Knd.RetRd {α : Type} (X : Knd α) (w : World) (l : List α) (e : Ending) (w' : World) : Prop := ∃ A c, e = .returned (.slice A l.length c) ∧ X.Rd w' A c l ∧ Below w.heap.size w w'
set_option maxRecDepth 100000 in
set_option maxHeartbeats 8000000 in
theorem TBnd_g (l : List Ru) (A : Option Addr) (c : Nat) (v : Bool) {w : World} (hl : RuK.Rd w A c l) (h4 : l.length ≤ 100000) :
  Calls Try.prog 41 #[.slice A l.length c, .bool v] w (BdK.RetRd w (bndE l v)) := by
 obtain ⟨n, hn⟩ : ∃ n, l.length = n := ⟨_, rfl⟩
 have hM := hid fun (j : Nat) (hj : j < n) (W : World) (hb : Below w.heap.size w W) => (hl.below hb).at_ (j := j) (by omega)
 have cc := Nat.le_trans hl.cap hl.max
 have hst := hid fun (i : Nat) (h : i < l.length) => bndL_succ (v := v) h
 have hln := hid fun (i : Nat) => (show (bndL (l.take i) v).length ≤ l.length from Nat.le_trans (bndL_len _ _) (by rw [List.length_take]; omega))
 have hall := hid (show bndL (l.take l.length) v = bndL l v from by rw [List.take_length])
 have hO0 : BdK.Own w w.heap.size (.slice none 0 0) (bndL (l.take 0) v) := Knd.Own.nil _ _
 have hE : Hid (bndE l v = dedP ((bndL l v).mergeSort fun x y => !decide (cmpP y x < 0))) := rfl
 rw [hn] at cc h4 hln hall ⊢
 replace hn := hid hn
 clear hl
 generalize hBL : (fun i => bndL (l.take i) v) = BL
 have hst2 := hid fun (i : Nat) (h : i < l.length) => (show BL (i + 1) = BL i ++ (if l[i].v = v then [(l[i].a, l[i].t)] else []) from by rw [← hBL]; exact hst.out i h)
 have hln2 := hid fun (i : Nat) => (show (BL i).length ≤ n from by rw [← hBL]; exact hln.out i)
 have hal2 := hid (show BL n = bndL l v from by rw [← hBL]; exact hall.out)
 have hO1 : BdK.Own w w.heap.size (.slice none 0 0) (BL 0) := by rw [← hBL]; exact hO0
 clear hst hln hall hO0 hBL
 go_enter Try.func41, Try.ntmps41
 go_wp2
 go_loopw [10, 5] (fun s10 s5 wr => ∃ i : Nat, s10 = .int .i64 (i : Int) ∧ i ≤ n ∧ BdK.Own wr w.heap.size s5 (BL i) ∧ Below w.heap.size w wr) (fun s10 _ _ => n - (intOf s10).toNat)
 case atStart => exact ⟨0, rfl, by omega, hO1, Below.refl _ _⟩
 case round =>
  clear hO1
  obtain ⟨i, rfl, hi, hO, HB⟩ := hrel
  by_cases hin : i < n
  ·have hii : (i : Int) < (n : Int) := by omega
   have hil : i < l.length := by have := hn.out; omega
   obtain ⟨b, o, hA3, hc⟩ := hM.out i hin wr HB
   have f0 : wr.cell? ⟨b, (o + i * 5), none⟩ = some (.bool l[i].v) := hc 0 _ rfl
   have f1 : wr.cell? ⟨b, (o + i * 5) + 1, none⟩ = some (.int .i64 l[i].a) := hc 1 _ rfl
   have f2 : wr.cell? ⟨b, (o + i * 5) + 2, none⟩ = some (.int .i64 l[i].t) := hc 2 _ rfl
   have f3 : wr.cell? ⟨b, (o + i * 5) + 3, none⟩ = some (.int .i64 l[i].f) := hc 3 _ rfl
   have f4 : wr.cell? ⟨b, (o + i * 5) + 4, none⟩ = some (.int .i64 l[i].o) := hc 4 _ rfl
   have hs1 := hid (hst2.out i hil)
   have hlb := hln2.out i
   clear hc
   subst hA3
   generalize l[i] = z at *
   obtain ⟨zv, za, zt, zf, zo⟩ := z
   dsimp only at f0 f1 f2 f3 f4 hs1
   clear hM hst2 hln2 hal2 hE
   go_upto_region 5 with fail
   refine enterR (P := fun u => Code.wp _ _ _ _ u) (c := [.bool zv, .int .i64 za, .int .i64 zt, .int .i64 zf, .int .i64 zo]) ?_
   intro x hbx s0 zx hsx
   clear zx f0 f1 f2 f3 f4
   have f0 : (x).cell? ⟨wr.heap.size, 0, none⟩ = some (.bool zv) := s0 0 _ rfl
   have f1 : (x).cell? ⟨wr.heap.size, 1, none⟩ = some (.int .i64 za) := s0 1 _ rfl
   have f2 : (x).cell? ⟨wr.heap.size, 2, none⟩ = some (.int .i64 zt) := s0 2 _ rfl
   have f3 : (x).cell? ⟨wr.heap.size, 3, none⟩ = some (.int .i64 zf) := s0 3 _ rfl
   have f4 : (x).cell? ⟨wr.heap.size, 4, none⟩ = some (.int .i64 zo) := s0 4 _ rfl
   clear s0
   replace hO := hO.below hbx
   replace HB := bel_step HB hbx
   clear hbx hsx
   by_cases hv : zv = v
   ·subst hv
    have hs2 := hid (show BL (i + 1) = BL i ++ [(za, zt)] from by have := hs1.out; rwa [if_pos rfl] at this)
    have hOx := hO.below ((Below.refl _ _).alloc (Nat.le_refl _) (.cells #[.int .i64 za, .int .i64 zt] 79))
    have hBx := HB.alloc HB.size (.cells #[.int .i64 za, .int .i64 zt] 79)
    have hr := rng_alloc (w := x) (cs := [.int .i64 za, .int .i64 zt]) (t := 79)
    have hxs := HB.size
    clear hO HB hs1
    go_wp2_with (at_builtin; go_loud (refine Knd.app1 BdKo rfl (.tmp 18) (.tmp 24) rfl w.heap.size u5 (BL i) (za, zt) x.heap.size rfl hOx rfl hr (by omega) (by simp; omega) ?_); intro v' w' hO' hg' hat'; have hb' := hid (Knd.grown hBx hOx hg' (by simp; omega) (Nat.le_refl _)); have hO' := hid hO'; clear hg' hat' hOx hBx hr)
    go_roundw
    case rel => exact ⟨i + 1, by go_num, by omega, by rw [hs2.out]; exact hO'.out, hb'.out⟩
    case measure => simp [intOf]; omega
   ·have hs2 := hid (show BL (i + 1) = BL i from by have := hs1.out; rwa [if_neg hv, List.append_nil] at this)
    have hvb : (zv == v) = false := beq_eq_false_iff_ne.2 hv
    clear hs1
    go_wp2
    go_roundw
    case rel => exact ⟨i + 1, by go_num, by omega, by rw [hs2.out]; exact hO, HB⟩
    case measure => simp [intOf]; omega
  ·obtain rfl : n = i := by omega
   have hii : ¬ (n : Int) < (n : Int) := by omega
   have hlb := hln2.out n
   have hso := hid (SoB hO (by omega))
   have hOl := hid hO
   have HBh := hid HB
   clear hM hst2 hln2 hO HB
   go_wp2_with fail
   refine hso.out.mono ?_
   rintro e w1 ⟨rfl, S, hP, hQ, hO1, hg⟩
   have hSl : S.length ≤ 100000000 := by rw [hP.length_eq]; omega
   have hcp := hid (Cpt_g S u5 _ hO1 hSl)
   have hSe := hid (show dedP S = bndE l v from by rw [hE.out, ← hal2.out, ← bnd_sort hP (hQ.imp fun hx => by omega)])
   have hb1 := Knd.grown HBh.out hOl.out hg HBh.out.size (Nat.le_refl _)
   have hO1h := hid hO1
   clear hso hP hQ hg hSl hal2 hE hO1 hOl HBh
   go_wp2_with fail
   refine hcp.out.mono ?_
   rintro e w2 ⟨B, d, rfl, hr, hg2⟩
   have hb2 := hid (Knd.grown hb1 hO1h.out hg2 hb1.size (Nat.le_refl _))
   rw [hSe.out] at hr ⊢
   replace hr := hid hr
   clear hcp hSe hb1 hO1h hg2
   obtain ⟨m, hm⟩ : ∃ m, (bndE l v).length = m := ⟨_, rfl⟩
   have hmh := hid hm
   rw [hm]
   clear hm
   go_wp2
   go_ret
   exact ⟨B, d, by rw [hmh.out]; rfl, hr.out, hb2.out⟩
end Go.Proofs.Ytjfgklhifhaaoaa
