/- Tables: points as bands, their places, covered rows, of the reference. Conditions: none. -/
import Derived.Test.YtjfgklhifhaaoaaGreatZTw3
import Derived.Test.YtjfgklhifhaaoaaGreatZTr5
import Derived.Test.YtjfgklhifhaaoaaGreatZPE
import Derived.Test.YtjfgklhifhaaoaaGreatZLsr
set_option linter.unusedVariables false
set_option linter.unusedSimpArgs false
namespace Go.Proofs.YtjfgklhifhaaoaaGreat
open Go.RowKit
def PtK : Knd (Int × Int) := ⟨84, 45, 2, 16, .agg #[.int .i64 0, .int .i64 0], fun r => [.int .i64 r.1, .int .i64 r.2]⟩
theorem PtKo : PtK.Ok := ⟨Tryz.underlying84, by kernel_rfl, rfl, by decide, by decide, fun _ => rfl, fun _ v hv => by
 simp only [PtK, List.mem_cons, List.not_mem_nil, or_false] at hv
 repeat' (rcases hv with rfl | hv; rfl)⟩
theorem szPt (w : World) : (Go.sizeOf 45).run Tryz.prog w = .ok 2 w := by
 simp [Go.sizeOf, go_sem]
 rfl
theorem add_nul (a : Addr) : a.add 0 = a := by obtain ⟨b, o, s⟩ := a; cases s <;> simp [Addr.add]
theorem run_sl_hi (w : World) (A : Option Addr) (n c k : Nat) (h : k ≤ c) : (Instr.sliceAt 84 (.slice A n c) none (some (.int .i64 (k : Int))) none).run Tryz.prog w = .ok (.slice A k c) w := by
 have h1 : (0 : Int) ≤ (k : Int) ∧ (k : Int) ≤ (c : Int) := by omega
 have h2 : A.map (fun x => x.add 0) = A := by cases A <;> simp [add_nul]
 simp [Instr.sliceAt, Instr.slice, Instr.sliceBounds, Instr.sliceBound, go_sem, Tryz.underlying84, szPt, h, add_nul]
theorem run_sl_lo (w : World) (A : Option Addr) (n c k : Nat) (h : k ≤ n) : (Instr.sliceAt 84 (.slice A n c) (some (.int .i64 (k : Int))) none none).run Tryz.prog w = .ok (.slice (if c = k then A else A.map (fun x => x.add (k * 2))) (n - k) (c - k)) w := by
 simp [Instr.sliceAt, Instr.slice, Instr.sliceBounds, Instr.sliceBound, go_sem, Tryz.underlying84, szPt, h]
theorem PtK.lo {w : World} {A : Option Addr} {c k : Nat} {L : List (Int × Int)} (h : PtK.Rd w A c L) (hk : k ≤ L.length) : PtK.Rd w (if c = k then A else A.map (fun x => x.add (k * 2))) (c - k) (L.drop k) := by
 have hc := h.cap
 have hm := h.max
 refine ⟨by rw [List.length_drop]; omega, by omega, fun h0 => ?_⟩
 rw [List.length_drop] at h0
 obtain ⟨b, o, rfl, hb, hr⟩ := h.rd (by omega)
 rw [if_neg (by omega)]
 refine ⟨b, o + k * 2, by simp [Addr.add], hb, fun j hj => ?_⟩
 rw [List.length_drop] at hj
 have := hr (k + j) (by omega)
 rw [List.getElem_drop]
 have e : o + (k + j) * PtK.k = o + k * 2 + j * PtK.k := by show o + (k + j) * 2 = o + k * 2 + j * 2; omega
 rwa [e] at this
/-! the number of a band -/
theorem plac_ne {L : List (Int × Int)} {x : Int} {j : Nat} (hj : j < L.length) (h : j < placP L x) : L[j].1 ≠ x := by
 unfold placP at h
 have := List.not_of_lt_findIdx h
 simpa using this
theorem plac_at {L : List (Int × Int)} {x : Int} (h : placP L x < L.length) : L[placP L x].1 = x := by
 have h1 : L.findIdx (fun b => decide (b.1 = x)) < L.length := h
 have := List.findIdx_getElem (w := h1)
 exact of_decide_eq_true this
set_option maxHeartbeats 2000000 in
theorem RPlc_g (L : List (Int × Int)) (A : Option Addr) (c : Nat) (x : Int) {w : World} (hl : PtK.Rd w A c L) (hx : placP L x < L.length) : Calls Tryz.prog 66 #[.slice A L.length c, .int .i64 x] w (RetI w (placP L x : Int)) := by
 obtain ⟨n, hn⟩ : ∃ n, L.length = n := ⟨_, rfl⟩
 have hM := hid fun (j : Nat) (hj : j < n) => hl.at_ (j := j) (by omega)
 have cc := Nat.le_trans hl.cap hl.max
 have h1 := hid fun (j : Nat) (hj : j < L.length) (h : j < placP L x) => plac_ne hj h
 have h2 := hid (plac_at hx)
 rw [hn] at cc hx ⊢
 replace hn := hid hn
 have h3 := hid fun (j : Nat) (hj : j < L.length) (h : j = placP L x) => (show L[j].1 = x from by subst h; exact h2.out)
 generalize placP L x = K at *
 clear hl h2
 have HB := Below.refl w.heap.size w
 go_enter Tryz.func66, Tryz.ntmps66
 go_wp2
 go_loopw [5] (fun s5 wr => ∃ k : Nat, s5 = .int .i64 k ∧ k ≤ K ∧ wr = w) (fun s5 _ => K - (intOf s5).toNat)
 case atStart => exact ⟨0, rfl, by omega, rfl⟩
 case round =>
  obtain ⟨k, rfl, hk, hwr⟩ := hrel
  rw [hwr]
  clear hwr wr
  have hki : (k : Int) < (n : Int) := by omega
  obtain ⟨b, o, hA3, hc⟩ := hM.out k (by omega)
  have e0 : w.cell? ⟨b, o + k * 2, none⟩ = some (.int .i64 (L[k]'(by have := hn.out; omega)).1) := hc 0 _ rfl
  subst hA3
  clear hc
  by_cases hkK : k < K
  ·have hne := h1.out k (by have := hn.out; omega) hkK
   generalize L[k]'(by have := hn.out; omega) = q at *
   have hqi : (q.1 != x) = true := by simpa using hne
   clear hM h1 h3 hne HB
   go_wp2
   go_roundw
   case rel => exact ⟨k + 1, by go_num, by omega, by first | rfl | trivial⟩
   case measure => simp [intOf]; omega
  ·obtain rfl : k = K := by omega
   have he := h3.out k (by have := hn.out; omega) rfl
   generalize L[k]'(by have := hn.out; omega) = q at *
   have hqi : (q.1 != x) = false := by simpa using he
   clear hM h1 h3 he
   go_wp2
   go_ret
   exact ⟨rfl, HB⟩
/-! rows that are covered -/
theorem ful_not {l : List Bool} {i : Nat} (h : i < l.length) (hb : l[i] = false) : fulB l = false := by
 unfold fulB
 rw [List.all_eq_false]
 exact ⟨_, List.getElem_mem h, by rw [hb]; simp⟩
theorem ful_yes {l : List Bool} (h : ∀ i (hi : i < l.length), l[i] = true) : fulB l = true := by
 unfold fulB
 rw [List.all_eq_true]
 intro x hx
 obtain ⟨i, hi, rfl⟩ := List.getElem_of_mem hx
 exact h i hi
set_option maxHeartbeats 2000000 in
theorem RFul_g (l : List Bool) (A : Option Addr) (c : Nat) {w : World} (hl : BoK.Rd w A c l) : Calls Tryz.prog 67 #[.slice A l.length c] w (RetB w (fulB l)) := by
 obtain ⟨n, hn⟩ : ∃ n, l.length = n := ⟨_, rfl⟩
 have hM := hid fun (j : Nat) (hj : j < n) => hl.at_ (j := j) (by omega)
 have cc := Nat.le_trans hl.cap hl.max
 have hB := hid fun (i : Nat) (h : i < l.length) hb => ful_not h hb
 have hE := hid fun h => ful_yes (l := l) h
 rw [hn] at cc ⊢
 replace hn := hid hn
 generalize fulB l = R at *
 clear hl
 have HB := Below.refl w.heap.size w
 go_enter Tryz.func67, Tryz.ntmps67
 go_wp2
 go_loopw [3] (fun s3 wr => ∃ i : Nat, s3 = .int .i64 i ∧ i ≤ n ∧ Hid (∀ j (hj : j < l.length), j < i → l[j] = true) ∧ wr = w) (fun s3 _ => n - (intOf s3).toNat)
 case atStart => exact ⟨0, rfl, by omega, fun j _ h => by omega, rfl⟩
 case round =>
  obtain ⟨i, rfl, hi, hA, hwr⟩ := hrel
  rw [hwr]
  clear hwr wr
  by_cases hin : i < n
  ·have hii : (i : Int) < (n : Int) := by omega
   have hil : i < l.length := by have := hn.out; omega
   obtain ⟨b, o, hA3, hc⟩ := hM.out i hin
   have e0 : w.cell? ⟨b, o + i * 1, none⟩ = some (.bool l[i]) := hc 0 _ rfl
   rw [Nat.mul_one] at e0
   subst hA3
   have hb1 := hid fun (h : l[i] = false) => hB.out i hil h
   have hb2 := hid fun (h : l[i] = true) (j : Nat) (h1 : j < l.length) (hj : j < i + 1) => (show l[j] = true from by
    by_cases e : j = i
    ·subst e; exact h
    ·exact hA.out j h1 (by omega))
   clear hc
   generalize l[i] = q at *
   cases q
   ·obtain rfl := hb1.out rfl
    clear hM hB hE hb1 hb2 hA
    go_wp2
    go_ret
    exact ⟨rfl, HB⟩
   ·have hA2 := hid (hb2.out rfl)
    clear hM hB hE hb1 hb2 hA HB
    go_wp2
    go_roundw
    case rel => exact ⟨i + 1, by go_num, by omega, hA2, by first | rfl | trivial⟩
    case measure => simp [intOf]; omega
  ·obtain rfl : i = n := by omega
   have hii : ¬ (i : Int) < (i : Int) := by omega
   obtain rfl := hE.out fun j hj => hA.out j hj (by have := hn.out; omega)
   clear hM hB
   go_wp2
   go_ret
   exact ⟨rfl, HB⟩
end Go.Proofs.YtjfgklhifhaaoaaGreat
/- Tables: the bands of the reference. Conditions: at most 100000 valid lines. -/
namespace Go.Proofs.YtjfgklhifhaaoaaGreat
open Go.RowKit
theorem insP_len (out : List (Int × Int)) (p : Int × Int) : (insP out p).length ≤ out.length + 1 := by
 rcases insP_cases out p with ⟨_, _, _, e⟩ | ⟨_, e⟩
 ·rw [e]; omega
 ·rw [e, List.length_append, List.length_cons, List.length_take, List.length_drop]; omega
def insK (l : List Ru) (v : Bool) (i : Nat) : List (Int × Int) := (bndL (l.take i) v).foldl insP []
theorem insK_succ {l : List Ru} {v : Bool} {i : Nat} (h : i < l.length) : insK l v (i + 1) = if l[i].v = v then insP (insK l v i) (l[i].a, l[i].t) else insK l v i := by
 unfold insK
 rw [bndL_succ h, List.foldl_append]
 split <;> rfl
theorem insK_len (l : List Ru) (v : Bool) (h : l.length ≤ 100000) : ∀ i, i ≤ l.length → (insK l v i).length ≤ i
 | 0, _ => by simp [insK, bndL]
 | i + 1, hi => by
  rw [insK_succ (by omega)]
  have := insK_len l v h i (by omega)
  split
  ·have := insP_len (insK l v i) (l[i].a, l[i].t); omega
  ·omega
theorem insK_all (l : List Ru) (v : Bool) : insK l v l.length = bndR l v := by unfold insK bndR; rw [List.take_length]
/-- bands that come back -/
def RetBd (w : World) (L : List (Int × Int)) (e : Ending) (w' : World) : Prop :=
 ∃ B n c, e = .returned (.tuple #[.slice B n c, .bool (aptE L)]) ∧ (aptE L = true → n = L.length ∧ PtK.Own w' w.heap.size (.slice B n c) L) ∧ Below w.heap.size w w'
set_option maxRecDepth 100000 in
set_option maxHeartbeats 8000000 in
theorem RBnd_g (l : List Ru) (A : Option Addr) (c : Nat) (v : Bool) {w : World} (hl : RuK.Rd w A c l) (h5 : l.length ≤ 100000) (hok : ∀ r ∈ l, okR r = true) :
  Calls Tryz.prog 64 #[.slice A l.length c, .bool v] w (RetBd w (bndR l v)) := by
 obtain ⟨n, hn⟩ : ∃ n, l.length = n := ⟨_, rfl⟩
 have hM := hid fun (j : Nat) (hj : j < n) (W : World) (hb : Below w.heap.size w W) => (hl.below hb).at_ (j := j) (by omega)
 have cc := Nat.le_trans hl.cap hl.max
 have hbs := hid fun (i : Nat) (h : i < l.length) => insK_succ (v := v) h
 have hbl := hid fun (i : Nat) (h : i ≤ l.length) => insK_len l v h5 i h
 have hba := hid (show insK l v n = bndR l v from by rw [← hn]; exact insK_all l v)
 have hbm := hid fun (x : Int × Int) (hx : x ∈ bndR l v) => (show (0 ≤ x.1 ∧ x.1 ≤ 4096) ∧ 1 ≤ x.2 ∧ x.2 ≤ 4096 from by
  rw [bndR_mem] at hx
  unfold bndL at hx
  obtain ⟨r, hr, rfl⟩ := List.mem_map.1 hx
  have := okR_iff.1 (hok r (List.mem_filter.1 hr).1)
  dsimp only
  omega)
 have h0 : insK l v 0 = [] := rfl
 rw [← hba.out] at hbm ⊢
 rw [hn] at cc h5 ⊢
 replace hn := hid hn
 generalize insK l v = B at *
 clear hl hok hba
 go_enter Tryz.func64, Tryz.ntmps64
 have hO0 : PtK.Own w w.heap.size (.slice none 0 0) (B 0) := by rw [h0]; exact Knd.Own.nil _ _
 go_wp2
 go_loopw [7, 6] (fun s7 s6 wr => ∃ i : Nat, s7 = .int .i64 i ∧ i ≤ n ∧ PtK.Own wr w.heap.size s6 (B i) ∧ Below w.heap.size w wr) (fun s7 _ _ => n - (intOf s7).toNat)
 case atStart => exact ⟨0, rfl, by omega, hO0, Below.refl _ _⟩
 case round =>
  clear hO0 h0
  obtain ⟨i, rfl, hi, hO, HB⟩ := hrel
  by_cases hin : i < n
  ·have hii : (i : Int) < (n : Int) := by omega
   have hil : i < l.length := by have := hn.out; omega
   obtain ⟨b, o, hA3, hc⟩ := hM.out i hin wr HB
   have f0 : wr.cell? ⟨b, (o + i * 5), none⟩ = some (.bool l[i].v) := hc 0 _ rfl
   have f1 : wr.cell? ⟨b, (o + i * 5) + 1, none⟩ = some (.int .i64 l[i].a) := hc 1 _ rfl
   have f2 : wr.cell? ⟨b, (o + i * 5) + 2, none⟩ = some (.int .i64 l[i].t) := hc 2 _ rfl
   have f3 : wr.cell? ⟨b, (o + i * 5) + 3, none⟩ = some (.int .i64 l[i].f) := hc 3 _ rfl
   have f4 : wr.cell? ⟨b, (o + i * 5) + 4, none⟩ = some (.int .i64 l[i].o) := hc 4 _ rfl
   clear hc
   subst hA3
   have hst0 := hid (hbs.out i hil)
   have hll := hbl.out i (by omega)
   generalize l[i] = z at *
   obtain ⟨zv, za, zt, zf, zo⟩ := z
   dsimp only at f0 f1 f2 f3 f4
   clear hM hbs hbl hbm
   by_cases hv : zv = v
   ·subst hv
    have hst := hid (show B (i + 1) = insP (B i) (za, zt) from by have := hst0.out; simpa using this)
    clear hst0
    obtain ⟨L, hL⟩ : ∃ L, B i = L := ⟨_, rfl⟩
    rw [hL] at hO hst hll
    clear hL
    go_upto_region 6 with fail
    obtain ⟨gx, hgx0⟩ : ∃ x, wr.heap.size = x := ⟨_, rfl⟩
    refine Ords.start (x := 12) (S := fun w' => w'.cell? ⟨b, o + i * 5 + 1, none⟩ = some (.int .i64 za) ∧ w'.cell? ⟨b, o + i * 5 + 2, none⟩ = some (.int .i64 zt)) (by kernel_rfl) ⟨f1, f2⟩ (fun hHeld => ?_)
    have hdb : Below wr.heap.size wr wr.drew := (Below.refl _ _).drew
    have hds : wr.drew.heap.size = gx := hgx0
    generalize wr.drew = xd at hdb hds hHeld ⊢
    refine' Ords.take (i := 0) ?_ ?_ ?_ ?_ ?_ ?_ ?_ ?_ ?_
    rotate_left 2
    ·(simp only [List.getElem?_toArray, List.getElem?_cons_succ, List.getElem?_cons_zero]; rfl)
    ·kernel_rfl
    ·kernel_rfl
    ·kernel_rfl
    ·kernel_rfl
    ·exact fun _ _ _ h => h
    ·(refine Or.inl ⟨by rfl, ?_⟩; intro w_ hSw_; (try dsimp only at hSw_); go_simp; (try with_reducible rfl))
    ·assumption
    (try simp only [Act.put, Lp0, Lp1, Lp2])
    refine' Ords.take (i := 1) ?_ ?_ ?_ ?_ ?_ ?_ ?_ ?_ ?_
    rotate_left 2
    ·(simp only [List.getElem?_toArray, List.getElem?_cons_succ, List.getElem?_cons_zero]; rfl)
    ·kernel_rfl
    ·kernel_rfl
    ·kernel_rfl
    ·kernel_rfl
    ·exact fun _ _ _ h => h
    ·(refine Or.inl ⟨by rfl, ?_⟩; intro w_ hSw_; (try dsimp only at hSw_); go_simp; (try with_reducible rfl))
    ·assumption
    (try simp only [Act.put, Lp0, Lp1, Lp2])
    refine' Ords.take (i := 2) ?_ ?_ ?_ ?_ ?_ ?_ ?_ ?_ ?_
    rotate_left 2
    ·(simp only [List.getElem?_toArray, List.getElem?_cons_succ, List.getElem?_cons_zero]; rfl)
    ·kernel_rfl
    ·kernel_rfl
    ·kernel_rfl
    ·kernel_rfl
    ·exact fun _ _ _ h => h
    ·(refine Or.inl ⟨by rfl, ?_⟩; intro w_ hSw_; (try dsimp only at hSw_); go_simp; (try with_reducible rfl))
    ·assumption
    (try simp only [Act.put, Lp0, Lp1, Lp2])
    refine' Ords.take (i := 3) ?_ ?_ ?_ ?_ ?_ ?_ ?_ ?_ ?_
    rotate_left 2
    ·(simp only [List.getElem?_toArray, List.getElem?_cons_succ, List.getElem?_cons_zero]; rfl)
    ·kernel_rfl
    ·kernel_rfl
    ·kernel_rfl
    ·kernel_rfl
    ·exact fun _ _ _ h => h
    ·(refine Or.inl ⟨by rfl, ?_⟩; intro w_ hSw_; (try dsimp only at hSw_); go_simp; (try with_reducible rfl))
    ·assumption
    (try simp only [Act.put, Lp0, Lp1, Lp2])
    refine' Ords.take (i := 4) ?_ ?_ ?_ ?_ ?_ ?_ ?_ ?_ ?_
    rotate_left 2
    ·(simp only [List.getElem?_toArray, List.getElem?_cons_succ, List.getElem?_cons_zero]; rfl)
    ·kernel_rfl
    ·kernel_rfl
    ·kernel_rfl
    ·kernel_rfl
    ·exact fun _ _ _ h => h
    ·(refine Or.inl ⟨by rfl, ?_⟩; intro w_ hSw_; (try dsimp only at hSw_); go_simp; (try with_reducible rfl))
    ·assumption
    (try simp only [Act.put, Lp0, Lp1, Lp2])
    refine' Ords.take (i := 5) ?_ ?_ ?_ ?_ ?_ ?_ ?_ ?_ ?_
    rotate_left 2
    ·(simp only [List.getElem?_toArray, List.getElem?_cons_succ, List.getElem?_cons_zero]; rfl)
    ·kernel_rfl
    ·kernel_rfl
    ·kernel_rfl
    ·kernel_rfl
    ·exact fun _ _ _ h => h
    ·(refine Or.inl ⟨by rfl, ?_⟩; intro w_ hSw_; (try dsimp only at hSw_); go_simp; (try with_reducible rfl))
    ·assumption
    (try simp only [Act.put, Lp0, Lp1, Lp2])
    refine' Ords.take (i := 6) ?_ ?_ ?_ ?_ ?_ ?_ ?_ ?_ ?_
    rotate_left 2
    ·(simp only [List.getElem?_toArray, List.getElem?_cons_succ, List.getElem?_cons_zero]; rfl)
    ·kernel_rfl
    ·kernel_rfl
    ·kernel_rfl
    ·kernel_rfl
    ·exact fun _ _ _ h => h
    ·(refine Or.inl ⟨by rfl, ?_⟩; intro w_ hSw_; (try dsimp only at hSw_); go_simp; (try with_reducible rfl))
    ·assumption
    (try simp only [Act.put, Lp0, Lp1, Lp2])
    refine' Ords.take (i := 7) ?_ ?_ ?_ ?_ ?_ ?_ ?_ ?_ ?_
    rotate_left 2
    ·(simp only [List.getElem?_toArray, List.getElem?_cons_succ, List.getElem?_cons_zero]; rfl)
    ·kernel_rfl
    ·kernel_rfl
    ·kernel_rfl
    ·kernel_rfl
    ·exact fun _ _ _ h => h
    ·(refine Or.inl ⟨by rfl, ?_⟩; intro w_ hSw_; (try dsimp only at hSw_); go_simp; (try with_reducible rfl))
    ·assumption
    (try simp only [Act.put, Lp0, Lp1, Lp2])
    refine' Ords.take (i := 8) ?_ ?_ ?_ ?_ ?_ ?_ ?_ ?_ ?_
    rotate_left 2
    ·(simp only [List.getElem?_toArray, List.getElem?_cons_succ, List.getElem?_cons_zero]; rfl)
    ·kernel_rfl
    ·kernel_rfl
    ·kernel_rfl
    ·kernel_rfl
    ·exact fun _ _ _ h => h
    ·(refine Or.inl ⟨by rfl, ?_⟩; intro w_ hSw_; (try dsimp only at hSw_); go_simp; (try with_reducible rfl))
    ·assumption
    (try simp only [Act.put, Lp0, Lp1, Lp2])
    refine' Ords.take (i := 9) ?_ ?_ ?_ ?_ ?_ ?_ ?_ ?_ ?_
    rotate_left 2
    ·(simp only [List.getElem?_toArray, List.getElem?_cons_succ, List.getElem?_cons_zero]; rfl)
    ·kernel_rfl
    ·kernel_rfl
    ·kernel_rfl
    ·kernel_rfl
    ·exact fun _ _ _ h => h
    ·(refine Or.inl ⟨by rfl, ?_⟩; intro w_ hSw_; (try dsimp only at hSw_); go_simp; (try with_reducible rfl))
    ·assumption
    (try simp only [Act.put, Lp0, Lp1, Lp2])
    refine' Ords.take (i := 10) ?_ ?_ ?_ ?_ ?_ ?_ ?_ ?_ ?_
    rotate_left 2
    ·(simp only [List.getElem?_toArray, List.getElem?_cons_succ, List.getElem?_cons_zero]; rfl)
    ·kernel_rfl
    ·kernel_rfl
    ·kernel_rfl
    ·kernel_rfl
    ·exact fun _ _ _ h => h
    ·(refine Or.inl ⟨by rfl, ?_⟩; intro w_ hSw_; (try dsimp only at hSw_); go_simp; (try with_reducible rfl))
    ·assumption
    (try simp only [Act.put, Lp0, Lp1, Lp2])
    have hx0 := rng_alloc (w := xd) (cs := [.int .i64 0, .int .i64 0]) (t := 45)
    have hx1 := Zn.new_ (w := xd) (cs := ([.int .i64 0, .int .i64 0] : List Value).toArray) (t := 45)
    have hab : Below xd.heap.size xd (xd.alloc (.cells #[.int .i64 0, .int .i64 0] 45)) := (Below.refl _ _).alloc (Nat.le_refl _) _
    refine' Ords.step (i := 11) (by kernel_rfl) (by simp only [List.getElem?_toArray, List.getElem?_cons_succ, List.getElem?_cons_zero]; rfl) (fun K hK => ?_)
    go_simp
    skip
    (try go_wp2_with fail)
    refine hK.out _ _ ?_ (fun hHeld => ?_)
    ·exact ⟨keep_alloc hHeld.1, keep_alloc hHeld.2⟩
    clear hK K
    (try simp only [Act.put, Lp0, Lp1, Lp2])
    obtain ⟨wa, hwa⟩ : ∃ x, xd.alloc (.cells #[.int .i64 0, .int .i64 0] 45) = x := ⟨_, rfl⟩
    have hx0 : wa.rangeAt xd.heap.size 0 [.int .i64 0, .int .i64 0] := by rw [← hwa]; exact hx0
    have hx1 : Zn wa xd.heap.size := by rw [← hwa]; exact hx1
    rw [hwa] at hab hHeld ⊢
    have hba := bel_step hdb hab
    rw [hds] at hx0 hx1
    (try rw [hds])
    have k0 : wa.cell? ⟨gx, 0, none⟩ = some (.int .i64 0) := hx0 0 _ rfl
    have k1 : wa.cell? ⟨gx, 1, none⟩ = some (.int .i64 0) := hx0 1 _ rfl
    have kf := hx1.fr
    have ltk := cell_lt k0
    clear hwa hab hdb
    refine' Ords.last (by kernel_rfl) (by simp only [List.getElem?_toArray, List.getElem?_cons_succ, List.getElem?_cons_zero]; rfl) (by kernel_rfl) (fun K hK => ?_)
    go_simp
    (try go_wp2_with fail)
    refine hK.out _ _ ?_
    clear hK K
    (try simp only [Act.put, Lp0, Lp1, Lp2])
    have hrx := rng_same (vs := [.int .i64 za, .int .i64 zt]) hx0 hx1 rfl
    have hbx := below_set (below_set hba (show wr.heap.size ≤ gx by omega) 0 (.int .i64 za)) (show wr.heap.size ≤ gx by omega) 1 (.int .i64 zt)
    obtain ⟨xw, hxw⟩ : ∃ x, ((wa.setCell ⟨gx, 0, none⟩ (.int .i64 za)).setCell ⟨gx, 1, none⟩ (.int .i64 zt)) = x := ⟨_, rfl⟩
    have hrx : xw.rangeAt gx 0 [.int .i64 za, .int .i64 zt] := by rw [← hxw]; exact hrx
    rw [hxw] at hbx ⊢
    replace hO := hO.below hbx
    replace HB := bel_step HB hbx
    have p0 : xw.cell? ⟨gx, 0, none⟩ = some (.int .i64 za) := hrx 0 _ rfl
    have p1 : xw.cell? ⟨gx, 1, none⟩ = some (.int .i64 zt) := hrx 1 _ rfl
    clear hxw hx0 hx1 k0 k1 kf ltk hba hHeld hds hgx0 hbx hrx f0 f1 f2 f3 f4
    obtain ⟨A6, c6, hu6⟩ := hO.form PtKo
    subst hu6
    obtain ⟨hrd, -⟩ := hO.rd2 PtKo
    have hcap := hrd.cap
    obtain ⟨nn, hnn⟩ : ∃ x, L.length = x := ⟨_, rfl⟩
    rw [hnn] at hcap hll hO
    rw [hnn]
    have hcm := hrd.max
    have hK0 := hid (show posG L za nn = posP L za from by rw [← hnn]; rfl)
    have hmo := hid fun (k : Nat) (h : k < L.length) (hx : za < L[k].1) => posG_more h hx
    have hsp := hid fun (k : Nat) (h : k < L.length) (hx : ¬ za < L[k].1) => posG_stop h hx
    have hz0 := hid (posG_zero L za)
    have hRd := hid fun (W : World) (hb : Below xw.heap.size xw W) => (show (PtK.Rd W A6 c6 L ∧ Below w.heap.size w W) ∧ W.cell? ⟨gx, 0, none⟩ = some (.int .i64 za) ∧ W.cell? ⟨gx, 1, none⟩ = some (.int .i64 zt) from ⟨⟨hrd.below hb, bel_step HB hb⟩, keep_cell hb p0, keep_cell hb p1⟩)
    have hOk := hid fun (W : World) (hb : Below xw.heap.size xw W) => hO.below hb
    replace hnn := hid hnn
    clear hO hrd HB
    go_wp2
    clear p0 p1
    go_loopw [9] (fun s9 wz => ∃ k : Nat, s9 = .int .i64 k ∧ k ≤ nn ∧ Hid (posG L za k = posP L za) ∧ Below xw.heap.size xw wz) (fun s9 _ => (intOf s9).toNat)
    case atStart => exact ⟨nn, rfl, Nat.le_refl _, hK0, Below.refl _ _⟩
    case round =>
     clear hK0
     obtain ⟨k, rfl, hkn, hKk, hbz⟩ := hrel
     obtain ⟨⟨hrd, HBz⟩, p0, p1⟩ := hRd.out wr hbz
     by_cases hk0 : k = 0
     ·subst hk0
      have hki : ¬ (0 : Int) < ((0 : Nat) : Int) := by omega
      have hp0 : posP L za = 0 := by rw [← hKk.out]; exact hz0.out
      have hput2 := hid (show insP L (za, zt) = L.take 0 ++ [(za, zt)] ++ L.drop 0 from by
       rw [insP_put (.inl hp0)]
       show L.take (posP L za) ++ (za, zt) :: L.drop (posP L za) = _
       rw [hp0]; simp)
      clear hp0 hKk hmo hsp hz0
      go_upto_region 8 with fail
      go_quiet (fail)
      have hv_ : Below wr.heap.size wr (wr.drewN nq) := below_drewN (Below.refl _ _) _
      generalize wr.drewN nq = w2 at hv_ ⊢
      replace hbz := bel_step hbz hv_
      clear hrd HBz p0 p1 hv_
      obtain ⟨⟨hrd, HBz⟩, p0, p1⟩ := hRd.out w2 hbz
      go_upto_region 10 with fail
      go_quiet (fail)
      have hv_ : Below w2.heap.size w2 (w2.drewN nq) := below_drewN (Below.refl _ _) _
      generalize w2.drewN nq = wz at hv_ ⊢
      replace hbz := bel_step hbz hv_
      clear hrd HBz p0 p1 hv_
      obtain ⟨⟨hrd, HBz⟩, p0, p1⟩ := hRd.out wz hbz
      clear hbz hOk hRd
      have hsA := hid fun (W : World) => run_sl_hi W A6 nn c6 0 (by have := hcap; omega)
      obtain ⟨A7, hA7⟩ : ∃ x : Option Addr, (if c6 = 0 then (A6 : Option Addr) else Option.map (fun x : Addr => x.add (0 * 2)) A6) = x := ⟨_, rfl⟩
      obtain ⟨n7, hn7⟩ : ∃ x, nn - 0 = x := ⟨_, rfl⟩
      obtain ⟨c7, hc7⟩ : ∃ x, c6 - 0 = x := ⟨_, rfl⟩
      have hs1 : ∀ W : World, (Instr.sliceAt 84 (.slice A6 nn c6) none (some (.int .i64 (0 : Int))) none).run Tryz.prog W = .ok (.slice A6 0 c6) W := hsA.out
      have hs2 : ∀ W : World, (Instr.sliceAt 84 (.slice A6 nn c6) (some (.int .i64 (0 : Int))) none none).run Tryz.prog W = .ok (.slice A7 n7 c7) W := fun W => by rw [← hA7, ← hn7, ← hc7]; exact run_sl_lo W A6 nn c6 0 hkn
      have hlo := hid fun (W : World) (h : PtK.Rd W A6 c6 L) => (show PtK.Rd W A7 c7 (L.drop 0) from by rw [← hA7, ← hc7]; exact PtK.lo h (by have := hnn.out; omega))
      have hl7 := hid (show (L.drop 0).length = n7 from by rw [List.length_drop, hnn.out]; exact hn7)
      have hlk := hid (show (L.take 0).length = 0 from by rw [List.length_take, hnn.out]; omega)
      have hL4 : Hid (L.length ≤ 100000) := by have := hnn.out; exact hid (by omega)
      have hwz := HBz.size
      clear hA7 hn7 hc7 hsA
      go_wp2_with (at_builtin; first | (refine Knd.appr PtKo rfl (.tmp 64) (.tmp 67) rfl wz.heap.size (.slice none 0 0) A6 0 c6 [] (L.take 0) rfl (Knd.Own.nil _ _) rfl hlk.out (hrd.take 0) (by simp) (by have := hL4.out; rw [List.length_take]; omega) (Nat.le_refl _) ?_; intro v1 w1 hO1 hg1 hat1; have hb1 := hid (Below.grown (Below.refl wz.heap.size wz) hg1 (Nat.le_refl _) (fun k e => (by cases e))); have hrd1 := hrd.below hb1.out; have p0 := keep_cell hb1.out p0; have p1 := keep_cell hb1.out p1; have hs1z := hb1.out.size; have hbA := hid ((Below.refl w1.heap.size w1).alloc (Nat.le_refl _) (.cells #[.int .i64 za, .int .i64 zt] 45)); have hO1x := hO1.below hbA.out; have hrA := rng_alloc (w := w1) (cs := [.int .i64 za, .int .i64 zt]) (t := 45)) | (refine Knd.app1 PtKo rfl (.tmp 69) (.tmp 71) rfl wz.heap.size v1 ([] ++ L.take 0) (za, zt) w1.heap.size rfl hO1x rfl hrA (by have := hL4.out; rw [List.nil_append, List.length_take]; omega) (by simp; omega) ?_; intro v2 w2 hO2 hg2 hat2; have hb2 := hid (Knd.grown (bel_step hb1.out hbA.out) hO1x hg2 (by simp; omega) (Nat.le_refl _)); have hrd2 := hrd.below hb2.out; have hs2z := hb2.out.size) | (refine Knd.appr PtKo rfl (.tmp 73) (.tmp 76) rfl wz.heap.size v2 A7 n7 c7 ([] ++ L.take 0 ++ [(za, zt)]) (L.drop 0) rfl hO2 rfl hl7.out (hlo.out w2 hrd2) (by have := hL4.out; simp only [List.length_append, List.length_nil, List.length_cons, List.length_take]; omega) (by have := hL4.out; rw [List.length_drop]; omega) hs2z ?_; intro v3 w3 hO3 hg3 hat3; have hb3 := hid (Knd.grown hb2.out hO2 hg3 hs2z (Nat.le_refl _)); have hO3 := hid hO3))
      have hO4 := hid (show PtK.Own w3 w.heap.size v3 (B (i + 1)) from by
       rw [hst.out, hput2.out]
       have h := hO3.out
       rw [List.nil_append] at h
       exact h.older hwz)
      have hb4 := hid (bel_step HBz hb3.out)
      clear hO1 hO2 hO3 hg1 hg2 hg3 hat1 hat2 hat3 hb1 hb2 hb3 hrd hrd1 hrd2 hrA hO1x hbA hs1 hs2 p0 p1 hput2
      go_roundw
      case rel => exact ⟨i + 1, by go_num, by omega, hO4.out, hb4.out⟩
      case measure => simp [intOf]; omega
     ·have hki : (0 : Int) < (k : Int) := by omega
      have hkp : 0 < k := by omega
      have hwk : IntKind.i64.wrap ((k : Int) - 1) = ((k - 1 : Nat) : Int) := by rw [IntKind.wrap_i64]; omega
      have hkL : k - 1 < L.length := by have := hnn.out; omega
      obtain ⟨b6, o6, hA6, hc6⟩ := hrd.at_ (j := k - 1) hkL
      have q0 : wr.cell? ⟨b6, o6 + (k - 1) * 2, none⟩ = some (.int .i64 (L[k - 1]'hkL).1) := hc6 0 _ rfl
      have q1 : wr.cell? ⟨b6, o6 + (k - 1) * 2 + 1, none⟩ = some (.int .i64 (L[k - 1]'hkL).2) := hc6 1 _ rfl
      have hmo1 := hid (hmo.out (k - 1) hkL)
      have hsp1 := hid (hsp.out (k - 1) hkL)
      rw [show k - 1 + 1 = k by omega] at hmo1 hsp1
      have hkk1 := hid fun (h : posP L za = k) (hne : L[k - 1]'hkL ≠ (za, zt)) => (show insP L (za, zt) = L.take k ++ [(za, zt)] ++ L.drop k from by
       rw [insP_put (.inr ⟨by show posP L za - 1 < _; rw [h]; exact hkL, by
        have e : (posP L (za, zt).1 - 1) = k - 1 := by rw [show posP L (za, zt).1 = posP L za from rfl, h]
        simp only [e]
        exact hne⟩)]
       show L.take (posP L za) ++ (za, zt) :: L.drop (posP L za) = _
       rw [h]; simp)
      have hkk2 := hid fun (h : posP L za = k) (he : L[k - 1]'hkL = (za, zt)) => (show insP L (za, zt) = L from by
       refine insP_skip (by show 0 < posP L za; omega) (by show posP L za - 1 < _; rw [h]; exact hkL) ?_
       have e : (posP L (za, zt).1 - 1) = k - 1 := by rw [show posP L (za, zt).1 = posP L za from rfl, h]
       simp only [e]
       exact he)
      generalize L[k - 1]'hkL = q at *
      obtain ⟨x1, x2⟩ := q
      dsimp only at q0 q1 hmo1 hsp1
      obtain ⟨k1, hk1⟩ : ∃ x, k - 1 = x := ⟨_, rfl⟩
      rw [hk1] at hwk q0 q1 hmo1
      have hk1i : (k1 : Int) < (nn : Int) := by omega
      have hbl6 : b6 < wr.heap.size := cell_lt q0
      clear hc6 hmo hsp
      by_cases hx : za < x1
      ·have hK2 := hid (show posG L za k1 = posP L za from by rw [← hmo1.out hx]; exact hKk.out)
       clear hKk hsp1 hkk1 hkk2 hmo1 hOk
       subst hA6
       go_upto_region 8 with fail
       go_quiet (fail)
       have hv_ : Below wr.heap.size wr (wr.drewN nq) := below_drewN (Below.refl _ _) _
       generalize wr.drewN nq = w2 at hv_ ⊢
       replace hbz := bel_step hbz hv_
       clear hv_ hrd HBz p0 p1 q0 q1
       go_wp2
       go_roundw
       case rel => exact ⟨k1, by first | rfl | go_num, by omega, hK2, hbz⟩
       case measure => simp [intOf]; omega
      ·have hpk : posP L za = k := by rw [← hKk.out]; exact hsp1.out (by omega)
       have hk3 := hid (hkk1.out hpk)
       have hk4 := hid (hkk2.out hpk)
       clear hKk hsp1 hkk1 hkk2 hmo1 hpk
       have hA6' := hid hA6
       subst hA6
       go_upto_region 8 with fail
       go_quiet (fail)
       have hv_ : Below wr.heap.size wr (wr.drewN nq) := below_drewN (Below.refl _ _) _
       generalize wr.drewN nq = w2 at hv_ ⊢
       replace hbz := bel_step hbz hv_
       replace q0 := keep_cell hv_ q0
       replace q1 := keep_cell hv_ q1
       clear hrd HBz p0 p1 hv_
       obtain ⟨⟨hrd, HBz⟩, p0, p1⟩ := hRd.out w2 hbz
       by_cases e1 : x1 = za
       ·obtain rfl : za = x1 := e1.symm
        by_cases e2 : x2 = zt
        ·obtain rfl : zt = x2 := e2.symm
         have hst2 := hid (show B (i + 1) = L from by rw [hst.out]; exact hk4.out rfl)
         clear hk3 hk4 hst hx
         go_upto_region 10 with fail
         go_quiet (fail)
         have hv_ : Below w2.heap.size w2 (w2.drewN nq) := below_drewN (Below.refl _ _) _
         generalize w2.drewN nq = wz at hv_ ⊢
         replace hbz := bel_step hbz hv_
         clear hrd HBz p0 p1 hv_ q0 q1
         obtain ⟨⟨-, HBz⟩, -, -⟩ := hRd.out wz hbz
         have hO2 := hid (hOk.out wz hbz)
         go_wp2
         go_roundw
         case rel => exact ⟨i + 1, by go_num, by omega, by rw [hst2.out]; exact hO2.out, HBz⟩
         case measure => simp [intOf]; omega
        ·have hput2 := hid (hk3.out (fun h => e2 (congrArg Prod.snd h)))
         clear hk3 hk4 hOk
         go_upto_region 10 with fail
         go_quiet (fail)
         have hv_ : Below w2.heap.size w2 (w2.drewN nq) := below_drewN (Below.refl _ _) _
         generalize w2.drewN nq = wz at hv_ ⊢
         replace hbz := bel_step hbz hv_
         clear hrd HBz p0 p1 hv_ q0 q1
         obtain ⟨⟨hrd, HBz⟩, p0, p1⟩ := hRd.out wz hbz
         clear hbz hRd
         have hsA := hid fun (W : World) => run_sl_hi W (some ⟨b6, o6, none⟩) nn c6 k (by have := hcap; omega)
         obtain ⟨A7, hA7⟩ : ∃ x : Option Addr, (if c6 = k then ((some ⟨b6, o6, none⟩) : Option Addr) else Option.map (fun x : Addr => x.add (k * 2)) (some ⟨b6, o6, none⟩)) = x := ⟨_, rfl⟩
         obtain ⟨n7, hn7⟩ : ∃ x, nn - k = x := ⟨_, rfl⟩
         obtain ⟨c7, hc7⟩ : ∃ x, c6 - k = x := ⟨_, rfl⟩
         have hs1 : ∀ W : World, (Instr.sliceAt 84 (.slice (some ⟨b6, o6, none⟩) nn c6) none (some (.int .i64 (k : Int))) none).run Tryz.prog W = .ok (.slice (some ⟨b6, o6, none⟩) k c6) W := hsA.out
         have hs2 : ∀ W : World, (Instr.sliceAt 84 (.slice (some ⟨b6, o6, none⟩) nn c6) (some (.int .i64 (k : Int))) none none).run Tryz.prog W = .ok (.slice A7 n7 c7) W := fun W => by rw [← hA7, ← hn7, ← hc7]; exact run_sl_lo W (some ⟨b6, o6, none⟩) nn c6 k hkn
         have hlo := hid fun (W : World) (h : PtK.Rd W (some ⟨b6, o6, none⟩) c6 L) => (show PtK.Rd W A7 c7 (L.drop k) from by rw [← hA7, ← hc7]; exact PtK.lo h (by have := hnn.out; omega))
         have hl7 := hid (show (L.drop k).length = n7 from by rw [List.length_drop, hnn.out]; exact hn7)
         have hlk := hid (show (L.take k).length = k from by rw [List.length_take, hnn.out]; omega)
         have hL4 : Hid (L.length ≤ 100000) := by have := hnn.out; exact hid (by omega)
         have hwz := HBz.size
         clear hA7 hn7 hc7 hsA
         go_wp2_with (at_builtin; first | (refine Knd.appr PtKo rfl (.tmp 64) (.tmp 67) rfl wz.heap.size (.slice none 0 0) (some ⟨b6, o6, none⟩) k c6 [] (L.take k) rfl (Knd.Own.nil _ _) rfl hlk.out (hrd.take k) (by simp) (by have := hL4.out; rw [List.length_take]; omega) (Nat.le_refl _) ?_; intro v1 w1 hO1 hg1 hat1; have hb1 := hid (Below.grown (Below.refl wz.heap.size wz) hg1 (Nat.le_refl _) (fun k e => (by cases e))); have hrd1 := hrd.below hb1.out; have p0 := keep_cell hb1.out p0; have p1 := keep_cell hb1.out p1; have hs1z := hb1.out.size; have hbA := hid ((Below.refl w1.heap.size w1).alloc (Nat.le_refl _) (.cells #[.int .i64 za, .int .i64 zt] 45)); have hO1x := hO1.below hbA.out; have hrA := rng_alloc (w := w1) (cs := [.int .i64 za, .int .i64 zt]) (t := 45)) | (refine Knd.app1 PtKo rfl (.tmp 69) (.tmp 71) rfl wz.heap.size v1 ([] ++ L.take k) (za, zt) w1.heap.size rfl hO1x rfl hrA (by have := hL4.out; rw [List.nil_append, List.length_take]; omega) (by simp; omega) ?_; intro v2 w2 hO2 hg2 hat2; have hb2 := hid (Knd.grown (bel_step hb1.out hbA.out) hO1x hg2 (by simp; omega) (Nat.le_refl _)); have hrd2 := hrd.below hb2.out; have hs2z := hb2.out.size) | (refine Knd.appr PtKo rfl (.tmp 73) (.tmp 76) rfl wz.heap.size v2 A7 n7 c7 ([] ++ L.take k ++ [(za, zt)]) (L.drop k) rfl hO2 rfl hl7.out (hlo.out w2 hrd2) (by have := hL4.out; simp only [List.length_append, List.length_nil, List.length_cons, List.length_take]; omega) (by have := hL4.out; rw [List.length_drop]; omega) hs2z ?_; intro v3 w3 hO3 hg3 hat3; have hb3 := hid (Knd.grown hb2.out hO2 hg3 hs2z (Nat.le_refl _)); have hO3 := hid hO3))
         have hO4 := hid (show PtK.Own w3 w.heap.size v3 (B (i + 1)) from by
          rw [hst.out, hput2.out]
          have h := hO3.out
          rw [List.nil_append] at h
          exact h.older hwz)
         have hb4 := hid (bel_step HBz hb3.out)
         clear hO1 hO2 hO3 hg1 hg2 hg3 hat1 hat2 hat3 hb1 hb2 hb3 hrd hrd1 hrd2 hrA hO1x hbA hs1 hs2 p0 p1 hput2
         go_roundw
         case rel => exact ⟨i + 1, by go_num, by omega, hO4.out, hb4.out⟩
         case measure => simp [intOf]; omega
       ·have hput2 := hid (hk3.out (fun h => e1 (congrArg Prod.fst h)))
        clear hk3 hk4 hOk
        go_upto_region 10 with fail
        go_quiet (fail)
        have hv_ : Below w2.heap.size w2 (w2.drewN nq) := below_drewN (Below.refl _ _) _
        generalize w2.drewN nq = wz at hv_ ⊢
        replace hbz := bel_step hbz hv_
        clear hrd HBz p0 p1 hv_ q0 q1
        obtain ⟨⟨hrd, HBz⟩, p0, p1⟩ := hRd.out wz hbz
        clear hbz hRd
        have hsA := hid fun (W : World) => run_sl_hi W (some ⟨b6, o6, none⟩) nn c6 k (by have := hcap; omega)
        obtain ⟨A7, hA7⟩ : ∃ x : Option Addr, (if c6 = k then ((some ⟨b6, o6, none⟩) : Option Addr) else Option.map (fun x : Addr => x.add (k * 2)) (some ⟨b6, o6, none⟩)) = x := ⟨_, rfl⟩
        obtain ⟨n7, hn7⟩ : ∃ x, nn - k = x := ⟨_, rfl⟩
        obtain ⟨c7, hc7⟩ : ∃ x, c6 - k = x := ⟨_, rfl⟩
        have hs1 : ∀ W : World, (Instr.sliceAt 84 (.slice (some ⟨b6, o6, none⟩) nn c6) none (some (.int .i64 (k : Int))) none).run Tryz.prog W = .ok (.slice (some ⟨b6, o6, none⟩) k c6) W := hsA.out
        have hs2 : ∀ W : World, (Instr.sliceAt 84 (.slice (some ⟨b6, o6, none⟩) nn c6) (some (.int .i64 (k : Int))) none none).run Tryz.prog W = .ok (.slice A7 n7 c7) W := fun W => by rw [← hA7, ← hn7, ← hc7]; exact run_sl_lo W (some ⟨b6, o6, none⟩) nn c6 k hkn
        have hlo := hid fun (W : World) (h : PtK.Rd W (some ⟨b6, o6, none⟩) c6 L) => (show PtK.Rd W A7 c7 (L.drop k) from by rw [← hA7, ← hc7]; exact PtK.lo h (by have := hnn.out; omega))
        have hl7 := hid (show (L.drop k).length = n7 from by rw [List.length_drop, hnn.out]; exact hn7)
        have hlk := hid (show (L.take k).length = k from by rw [List.length_take, hnn.out]; omega)
        have hL4 : Hid (L.length ≤ 100000) := by have := hnn.out; exact hid (by omega)
        have hwz := HBz.size
        clear hA7 hn7 hc7 hsA
        go_wp2_with (at_builtin; first | (refine Knd.appr PtKo rfl (.tmp 64) (.tmp 67) rfl wz.heap.size (.slice none 0 0) (some ⟨b6, o6, none⟩) k c6 [] (L.take k) rfl (Knd.Own.nil _ _) rfl hlk.out (hrd.take k) (by simp) (by have := hL4.out; rw [List.length_take]; omega) (Nat.le_refl _) ?_; intro v1 w1 hO1 hg1 hat1; have hb1 := hid (Below.grown (Below.refl wz.heap.size wz) hg1 (Nat.le_refl _) (fun k e => (by cases e))); have hrd1 := hrd.below hb1.out; have p0 := keep_cell hb1.out p0; have p1 := keep_cell hb1.out p1; have hs1z := hb1.out.size; have hbA := hid ((Below.refl w1.heap.size w1).alloc (Nat.le_refl _) (.cells #[.int .i64 za, .int .i64 zt] 45)); have hO1x := hO1.below hbA.out; have hrA := rng_alloc (w := w1) (cs := [.int .i64 za, .int .i64 zt]) (t := 45)) | (refine Knd.app1 PtKo rfl (.tmp 69) (.tmp 71) rfl wz.heap.size v1 ([] ++ L.take k) (za, zt) w1.heap.size rfl hO1x rfl hrA (by have := hL4.out; rw [List.nil_append, List.length_take]; omega) (by simp; omega) ?_; intro v2 w2 hO2 hg2 hat2; have hb2 := hid (Knd.grown (bel_step hb1.out hbA.out) hO1x hg2 (by simp; omega) (Nat.le_refl _)); have hrd2 := hrd.below hb2.out; have hs2z := hb2.out.size) | (refine Knd.appr PtKo rfl (.tmp 73) (.tmp 76) rfl wz.heap.size v2 A7 n7 c7 ([] ++ L.take k ++ [(za, zt)]) (L.drop k) rfl hO2 rfl hl7.out (hlo.out w2 hrd2) (by have := hL4.out; simp only [List.length_append, List.length_nil, List.length_cons, List.length_take]; omega) (by have := hL4.out; rw [List.length_drop]; omega) hs2z ?_; intro v3 w3 hO3 hg3 hat3; have hb3 := hid (Knd.grown hb2.out hO2 hg3 hs2z (Nat.le_refl _)); have hO3 := hid hO3))
        have hO4 := hid (show PtK.Own w3 w.heap.size v3 (B (i + 1)) from by
         rw [hst.out, hput2.out]
         have h := hO3.out
         rw [List.nil_append] at h
         exact h.older hwz)
        have hb4 := hid (bel_step HBz hb3.out)
        clear hO1 hO2 hO3 hg1 hg2 hg3 hat1 hat2 hat3 hb1 hb2 hb3 hrd hrd1 hrd2 hrA hO1x hbA hs1 hs2 p0 p1 hput2
        go_roundw
        case rel => exact ⟨i + 1, by go_num, by omega, hO4.out, hb4.out⟩
        case measure => simp [intOf]; omega
   ·have hst := hid (show B (i + 1) = B i from by have := hst0.out; rwa [if_neg hv] at this)
    clear hst0
    have hv2 : zv = !v := by revert hv; cases zv <;> cases v <;> simp
    subst hv2
    clear hv
    cases v
    all_goals
     simp only [Bool.not_false, Bool.not_true] at f0
     go_wp2
     go_roundw
     case rel => exact ⟨i + 1, by go_num, by omega, by rw [hst.out]; exact hO, HB⟩
     case measure => simp [intOf]; omega
  ·obtain rfl : i = n := by omega
   have hii : ¬ (i : Int) < (i : Int) := by omega
   have hlen := hbl.out i (by have := hn.out; omega)
   obtain ⟨L, hL⟩ : ∃ L, B i = L := ⟨_, rfl⟩
   rw [hL] at hO hlen hbm
   obtain ⟨A6, c6, hu6⟩ := hO.form PtKo
   subst hu6
   obtain ⟨hrd, -⟩ := hO.rd2 PtKo
   have hcap := hrd.cap
   have hcm := hrd.max
   have hno := hid fun (k : Nat) (h : k + 1 < L.length) (hx : ¬ L[k].1 + L[k].2 < L[k + 1].1) => aptL_no h hx
   have hye := hid fun (h : AptI L L.length) => aptL_yes h
   have hbb := hid fun (k : Nat) (h : k < L.length) => hbm.out L[k] (List.getElem_mem h)
   obtain ⟨E, hE⟩ : ∃ x, aptE L = x := ⟨_, rfl⟩
   rw [hE] at hno hye
   have hfin := hid fun (e : Ending) (w' : World) (B' : Option Addr) (n' c' : Nat) (h1 : e = .returned (.tuple #[.slice B' n' c', .bool E])) (h2 : E = true → n' = L.length ∧ PtK.Own w' w.heap.size (.slice B' n' c') L) (h3 : Below w.heap.size w w') => (show RetBd w (B i) e w' from by rw [hL]; exact ⟨B', n', c', by rw [hE]; exact h1, by rw [hE]; exact h2, h3⟩)
   obtain ⟨nn, hnn⟩ : ∃ x, L.length = x := ⟨_, rfl⟩
   rw [hnn] at hcap hlen hye
   rw [hnn] at hfin hO
   rw [hnn]
   have hRd := hid fun (W : World) (hb : Below wr.heap.size wr W) => And.intro (hrd.below hb) (bel_step HB hb)
   have hOw := hid fun (W : World) (hb : Below wr.heap.size wr W) => hO.below hb
   replace hnn := hid hnn
   replace hL := hid hL
   clear hM hbs hbl hbm hE hO hrd HB
   go_wp2
   go_loopw [11] (fun s11 wz => ∃ j : Nat, s11 = .int .i64 j ∧ 1 ≤ j ∧ Hid (AptI L j) ∧ Below wr.heap.size wr wz) (fun s11 _ => nn + 1 - (intOf s11).toNat)
   case atStart => exact ⟨1, rfl, Nat.le_refl _, fun i _ h => by omega, Below.refl _ _⟩
   case round =>
    obtain ⟨j, rfl, hj1, hI, hbz⟩ := hrel
    obtain ⟨hrd, HB⟩ := hRd.out _ hbz
    by_cases hjn : j < nn
    ·have hji : (j : Int) < (nn : Int) := by omega
     have hj0 : j - 1 < L.length := by have := hnn.out; omega
     have hj2 : j < L.length := by have := hnn.out; omega
     obtain ⟨b6, o6, hA6, hc6⟩ := hrd.at_ (j := j - 1) hj0
     obtain ⟨b7, o7, hA7, hc7⟩ := hrd.at_ (j := j) hj2
     obtain ⟨rfl, rfl⟩ : b6 = b7 ∧ o6 = o7 := by rw [hA6] at hA7; injection hA7 with h; injection h with h1 h2 _; exact ⟨h1, h2⟩
     have q0 : wr.cell? ⟨b6, o6 + (j - 1) * 2, none⟩ = some (.int .i64 (L[j - 1]'hj0).1) := hc6 0 _ rfl
     have q1 : wr.cell? ⟨b6, o6 + (j - 1) * 2 + 1, none⟩ = some (.int .i64 (L[j - 1]'hj0).2) := hc6 1 _ rfl
     have q2 : wr.cell? ⟨b6, o6 + j * 2, none⟩ = some (.int .i64 (L[j]'hj2).1) := hc7 0 _ rfl
     have hb1 := hbb.out (j - 1) hj0
     have hn1 := hid fun (h : ¬ (L[j - 1]'hj0).1 + (L[j - 1]'hj0).2 < (L[j]'hj2).1) => (show E = false from by
      have := hno.out (j - 1) (by omega)
      simp only [show j - 1 + 1 = j by omega] at this
      exact this (by omega))
     have hI2 := hid fun (h : (L[j - 1]'hj0).1 + (L[j - 1]'hj0).2 < (L[j]'hj2).1) (k : Nat) (h1 : k + 1 < L.length) (h2 : k + 1 < j + 1) => (show L[k].1 + L[k].2 < L[k + 1].1 from by
      by_cases e : k + 1 = j
      ·have e2 : k = j - 1 := by omega
       subst e2
       simp only [show j - 1 + 1 = j by omega]
       exact h
      ·exact hI.out k h1 (by omega))
     have hjw : IntKind.i64.wrap ((j : Int) - 1) = ((j - 1 : Nat) : Int) := by rw [IntKind.wrap_i64]; omega
     clear hc6 hc7 hno hye hbb hA7
     generalize L[j - 1]'hj0 = x at *
     generalize L[j]'hj2 = y at *
     obtain ⟨x1, x2⟩ := x
     obtain ⟨y1, y2⟩ := y
     dsimp only at q0 q1 q2 hb1 hn1 hI2
     have hws : IntKind.i64.wrap (x1 + x2) = x1 + x2 := by rw [IntKind.wrap_i64]; omega
     obtain ⟨j0, hj0e⟩ : ∃ x, j - 1 = x := ⟨_, rfl⟩
     rw [hj0e] at hjw q0 q1
     have hj0i : (j0 : Int) < (nn : Int) := by omega
     subst hA6
     clear hb1 hj0e
     by_cases hlt : x1 + x2 < y1
     ·have hle : ¬ y1 ≤ x1 + x2 := by omega
      have hI3 := hid (hI2.out (by omega))
      clear hn1 hI2
      go_upto_region 19 with fail
      go_quiet (fail)
      have hv_ : Below wr.heap.size wr (wr.drewN nq) := below_drewN (Below.refl _ _) _
      generalize wr.drewN nq = w2 at hv_ ⊢
      replace hbz := bel_step hbz hv_
      clear hv_ hrd HB q0 q1 q2
      go_wp2
      go_roundw
      case rel => exact ⟨j + 1, by go_num, by omega, hI3, hbz⟩
      case measure => simp [intOf]; omega
     ·have hle : y1 ≤ x1 + x2 := by omega
      have hEe := hid (hn1.out (by omega))
      clear hn1 hI2
      go_upto_region 19 with fail
      go_quiet (fail)
      have hv_ : Below wr.heap.size wr (wr.drewN nq) := below_drewN (Below.refl _ _) _
      generalize wr.drewN nq = w2 at hv_ ⊢
      replace HB := bel_step HB hv_
      clear hv_ hrd q0 q1 q2 hlt
      go_wp2
      refine bodyPost_ret (v := .tuple #[.slice none 0 0, .bool false]) ?_ rfl ?_
      ·simp [results, Tryz.results64, go_sem]
      ·exact hfin.out _ _ none 0 0 (by rw [hEe.out]) (fun h => by rw [hEe.out] at h; cases h) HB
    ·have hji : ¬ (j : Int) < (nn : Int) := by omega
     have hI4 := hid (show AptI L nn from fun k h1 h2 => hI.out k h1 (by omega))
     have hEe := hid (hye.out hI4.out)
     have hti : decide (2 ≤ (nn : Int)) = E := by rw [hEe.out]; congr 1; rw [eq_iff_iff]; omega
     have hOz := hid (hOw.out _ hbz)
     clear hno hye hbb hEe hrd
     go_wp2
     refine bodyPost_ret (v := .tuple #[.slice A6 nn c6, .bool E]) ?_ rfl ?_
     ·simp [results, Tryz.results64, go_sem]
     ·exact hfin.out _ _ A6 nn c6 rfl (fun _ => ⟨rfl, hOz.out⟩) HB
end Go.Proofs.YtjfgklhifhaaoaaGreat
