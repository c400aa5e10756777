/- Tables: cell of the reference. Conditions: at most 4096 rows and columns. -/
import Derived.Test.YtjfgklhifhaaoaaGreatZGB
import Derived.Test.YtjfgklhifhaaoaaGreatZTw8
set_option linter.unusedVariables false
set_option linter.unusedSimpArgs false
namespace Go.Proofs.YtjfgklhifhaaoaaGreat
open Go.RowKit
theorem rng_setI {w : World} {g i : Nat} {cs : List Value} {x : Value} (h : w.rangeAt g 0 cs) (hi : i < cs.length) : (w.setCell ⟨g, i, none⟩ x).rangeAt g 0 (cs.set i x) := fun j v hv => by
 rw [List.getElem?_set] at hv
 have e : 0 + j = j := Nat.zero_add j
 by_cases hij : i = j
 ·subst hij
  rw [if_pos rfl, if_pos hi] at hv
  obtain rfl := Option.some.inj hv
  have h0 := h i cs[i] (by simp [hi])
  rw [Nat.zero_add] at h0 ⊢
  exact at_set h0
 ·rw [if_neg hij] at hv
  have h0 := h j v hv
  rw [Nat.zero_add] at h0 ⊢
  exact (cell_set_ne hij).trans h0
theorem RdW.val {w : World} {K n c : Nat} {A : Option Addr} {M : List (List Bool)} (h : RdW w K A n c M) (h0 : 0 < M.length) (hK : ∀ k, k < M.length → (M.getD k []).length = K) : ∃ b o, A = some ⟨b, o, none⟩ ∧ ∀ k j, k < M.length → j < K → ∀ W, Below w.heap.size w W → ∃ g, W.cell? ⟨b, o + k, none⟩ = some (.slice (some ⟨g, 0, none⟩) K K) ∧ W.cell? ⟨g, j, none⟩ = some (.bool (mt2 M k j)) := by
 obtain ⟨_, b, o, _, e, _, _⟩ := h.at_ h0
 refine ⟨b, o, e, fun k j hk hj W hb => ?_⟩
 obtain ⟨_, b2, o2, g, e2, hc, hp⟩ := h.at_ hk
 obtain ⟨rfl, rfl⟩ : b = b2 ∧ o = o2 := by rw [e] at e2; injection e2 with e2; injection e2 with h1 h2 _; exact ⟨h1, h2⟩
 have hl := hK k hk
 have e3 : M.getD k [] = M[k] := by simp [List.getD, hk]
 rw [e3] at hl
 refine ⟨g, keep_cell hb hc, keep_cell hb ?_⟩
 have := hp.r j (.bool (mt2 M k j)) (by
  unfold mt2
  rw [e3]
  simp [bv, List.getD, show j < M[k].length by omega])
 rwa [Nat.zero_add] at this
theorem RdP.val {w : World} {c : Nat} {A : Option Addr} {L : List (Int × Int)} (h : PtK.Rd w A c L) (h0 : 0 < L.length) : ∃ b o, A = some ⟨b, o, none⟩ ∧ ∀ k, k < L.length → ∀ W, Below w.heap.size w W → W.cell? ⟨b, o + k * 2, none⟩ = some (.int .i64 (L.getD k (0, 0)).1) ∧ W.cell? ⟨b, o + k * 2 + 1, none⟩ = some (.int .i64 (L.getD k (0, 0)).2) := by
 obtain ⟨b, o, e, _⟩ := h.at_ h0
 refine ⟨b, o, e, fun k hk W hb => ?_⟩
 obtain ⟨b2, o2, e2, hc⟩ := h.at_ hk
 obtain ⟨rfl, rfl⟩ : b = b2 ∧ o = o2 := by rw [e] at e2; injection e2 with e2; injection e2 with h1 h2 _; exact ⟨h1, h2⟩
 have e3 : L.getD k (0, 0) = L[k] := by simp [List.getD, hk]
 rw [e3]
 exact ⟨keep_cell hb (hc 0 _ rfl), keep_cell hb (hc 1 _ rfl)⟩
section
variable {O S : Nat → Nat → Bool} {rows cols r c re ce : Nat}
theorem celR_bad1 (hre : re = endO O rows r c) (hce : ce = endC S cols r c) {y k : Nat} (h1 : r ≤ y) (h2 : y < re) (h3 : c ≤ k) (h4 : k ≤ ce) (h : S k y ≠ (k == c || k == ce)) : celR O S rows cols r c = none := by
 unfold celR
 rw [← hre, ← hce, if_neg]
 rw [Bool.and_eq_true, chkS_iff]
 exact fun e => h (e.1 y k h1 h2 h3 h4)
theorem celR_bad2 (hre : re = endO O rows r c) (hce : ce = endC S cols r c) {k y : Nat} (h1 : c ≤ k) (h2 : k < ce) (h3 : r ≤ y) (h4 : y ≤ re) (h : O y k ≠ (y == r || y == re)) : celR O S rows cols r c = none := by
 unfold celR
 rw [← hre, ← hce, if_neg]
 rw [Bool.and_eq_true, chkO_iff]
 exact fun e => h (e.2 k y h1 h2 h3 h4)
theorem celR_good (hre : re = endO O rows r c) (hce : ce = endC S cols r c) (h1 : ∀ y k, r ≤ y → y < re → c ≤ k → k ≤ ce → S k y = (k == c || k == ce)) (h2 : ∀ k y, c ≤ k → k < ce → r ≤ y → y ≤ re → O y k = (y == r || y == re)) : celR O S rows cols r c = some (re, ce) := by
 unfold celR
 rw [← hre, ← hce, if_pos]
 rw [Bool.and_eq_true, chkS_iff, chkO_iff]
 exact ⟨h1, h2⟩
end
/-! two boxes just made, and what they are given -/
theorem two_new {w : World} {t : TypeId} {a b c d : Value} : Below w.heap.size w ((w.alloc (.cells #[a, b] t)).alloc (.cells #[c, d] t)) ∧ (((w.alloc (.cells #[a, b] t)).alloc (.cells #[c, d] t)).rangeAt w.heap.size 0 [a, b] ∧ Zn ((w.alloc (.cells #[a, b] t)).alloc (.cells #[c, d] t)) w.heap.size) ∧ ((w.alloc (.cells #[a, b] t)).alloc (.cells #[c, d] t)).rangeAt (w.heap.size + 1) 0 [c, d] ∧ Zn ((w.alloc (.cells #[a, b] t)).alloc (.cells #[c, d] t)) (w.heap.size + 1) :=
 enterR2 (P := fun u => Below w.heap.size w u ∧ (u.rangeAt w.heap.size 0 [a, b] ∧ Zn u w.heap.size) ∧ u.rangeAt (w.heap.size + 1) 0 [c, d] ∧ Zn u (w.heap.size + 1)) (c0 := [a, b]) (c1 := [c, d]) fun u hb r0 r1 z0 z1 _ => ⟨hb, ⟨r0, z0⟩, r1, z1⟩
theorem two_set {w : World} {ga gb : Nat} {a b c d p q r s : Value} (hne : gb ≠ ga) (ha : w.rangeAt ga 0 [a, b]) (hb : w.rangeAt gb 0 [c, d]) : ((((w.setCell ⟨ga, 0, none⟩ p).setCell ⟨ga, 1, none⟩ q).setCell ⟨gb, 0, none⟩ r).setCell ⟨gb, 1, none⟩ s).rangeAt ga 0 [p, q] ∧ ((((w.setCell ⟨ga, 0, none⟩ p).setCell ⟨ga, 1, none⟩ q).setCell ⟨gb, 0, none⟩ r).setCell ⟨gb, 1, none⟩ s).rangeAt gb 0 [r, s] := by
 have h1 : ((w.setCell ⟨ga, 0, none⟩ p).setCell ⟨ga, 1, none⟩ q).rangeAt ga 0 [p, q] := rng_setI (i := 1) (rng_setI (i := 0) ha (show 0 < 2 by omega)) (show 1 < 2 by omega)
 have h2 : ((w.setCell ⟨ga, 0, none⟩ p).setCell ⟨ga, 1, none⟩ q).rangeAt gb 0 [c, d] := fun j v hv => keep_set hne.symm (keep_set hne.symm (hb j v hv))
 exact ⟨fun j v hv => keep_set hne (keep_set hne (h1 j v hv)), rng_setI (i := 1) (rng_setI (i := 0) h2 (show 0 < 2 by omega)) (show 1 < 2 by omega)⟩
/-- a cell that comes back -/
def RetCe (w : World) (f : Fr) (r c : Nat) (q : Option (Nat × Nat)) (e : Ending) (w' : World) : Prop :=
 ∃ ce : Ce, e = .returned (.tuple #[.agg #[.int .i64 ce.r, .int .i64 ce.c, .int .i64 ce.rs, .int .i64 ce.cs, .int .i64 ce.b.x, .int .i64 ce.b.y, .int .i64 ce.b.w, .int .i64 ce.b.h], .bool q.isSome]) ∧ (∀ p, q = some p → ce = boxC f (ceR r c p.1 p.2)) ∧ Below w.heap.size w w'
/-- a counter in a cell's box -/
def celM (w : World) (g i : Nat) : Nat := match w.cell? ⟨g, i, none⟩ with | some (.int _ z) => z.toNat | _ => 0
theorem celM_eq {w : World} {g i t : Nat} (h : w.cell? ⟨g, i, none⟩ = some (.int .i64 (t : Int))) : celM w g i = t := by unfold celM; rw [h]; simp
set_option maxRecDepth 100000 in
set_option maxHeartbeats 8000000 in
theorem RCel_g (H V : List (Int × Int)) (O S : List (List Bool)) (AH AV AO AS : Option Addr) (cH cV cO cS : Nat) (r c rows cols : Nat) {w : World} (hH : PtK.Rd w AH cH H) (hV : PtK.Rd w AV cV V) (hO : RdW w cols AO (rows + 1) cO O) (hS : RdW w rows AS (cols + 1) cS S)
  (lH : H.length = rows + 1) (lV : V.length = cols + 1) (lO : O.length = rows + 1) (lS : S.length = cols + 1) (rO : ∀ k, k < rows + 1 → (O.getD k []).length = cols) (rS : ∀ k, k < cols + 1 → (S.getD k []).length = rows)
  (sN : ∀ y, y < rows → mt2 S cols y = true) (oN : ∀ x, x < cols → mt2 O rows x = true)
  (bH : ∀ x ∈ H, (0 ≤ x.1 ∧ x.1 ≤ 4096) ∧ 1 ≤ x.2 ∧ x.2 ≤ 4096) (bV : ∀ x ∈ V, (0 ≤ x.1 ∧ x.1 ≤ 4096) ∧ 1 ≤ x.2 ∧ x.2 ≤ 4096) (hr : r < rows) (hc : c < cols) (hrows : rows ≤ 4096) (hcols : cols ≤ 4096) :
  Calls Tryz.prog 42 #[.agg #[.slice AH (rows + 1) cH, .slice AV (cols + 1) cV, .slice AO (rows + 1) cO, .slice AS (cols + 1) cS], .int .i64 r, .int .i64 c] w (RetCe w ⟨H, V, [], []⟩ r c (celR (mt2 O) (mt2 S) rows cols r c)) := by
 obtain ⟨bh, oh, rfl, hHv⟩ := RdP.val hH (by omega)
 obtain ⟨bv_, ov, rfl, hVv⟩ := RdP.val hV (by omega)
 obtain ⟨bo, oo, rfl, hOv⟩ := RdW.val hO (by omega) (by rw [lO]; exact rO)
 obtain ⟨bs, os, rfl, hSv⟩ := RdW.val hS (by omega) (by rw [lS]; exact rS)
 rw [lH] at hHv
 rw [lV] at hVv
 rw [lO] at hOv
 rw [lS] at hSv
 replace hHv := hid hHv
 replace hVv := hid hVv
 replace hOv := hid hOv
 replace hSv := hid hSv
 have hbd : ∀ (L : List (Int × Int)) (n : Nat), L.length = n → (∀ x ∈ L, (0 ≤ x.1 ∧ x.1 ≤ 4096) ∧ 1 ≤ x.2 ∧ x.2 ≤ 4096) → ∀ k, k < n → (0 ≤ (L.getD k (0, 0)).1 ∧ (L.getD k (0, 0)).1 ≤ 4096) ∧ 1 ≤ (L.getD k (0, 0)).2 ∧ (L.getD k (0, 0)).2 ≤ 4096 := fun L n hl hb k hk => by
  have e3 : L.getD k (0, 0) = L[k] := by simp [List.getD, show k < L.length by omega]
  rw [e3]; exact hb _ (List.getElem_mem _)
 have hHb := hid (hbd H _ lH bH)
 have hVb := hid (hbd V _ lV bV)
 have hbox := hid fun (ce : Ce) => (show (boxC ⟨H, V, [], []⟩ ce) = { ce with b := ⟨(V.getD ce.c.toNat (0, 0)).1 + (V.getD ce.c.toNat (0, 0)).2, (H.getD ce.r.toNat (0, 0)).1 + (H.getD ce.r.toNat (0, 0)).2, (V.getD (ce.c + ce.cs).toNat (0, 0)).1 - ((V.getD ce.c.toNat (0, 0)).1 + (V.getD ce.c.toNat (0, 0)).2), (H.getD (ce.r + ce.rs).toNat (0, 0)).1 - ((H.getD ce.r.toNat (0, 0)).1 + (H.getD ce.r.toNat (0, 0)).2)⟩ } from rfl)
 have hg1 := hid fun re ce h1 h2 y k a1 a2 a3 a4 h => celR_bad1 (O := mt2 O) (S := mt2 S) (rows := rows) (cols := cols) (r := r) (c := c) (re := re) (ce := ce) h1 h2 (y := y) (k := k) a1 a2 a3 a4 h
 have hg2 := hid fun re ce h1 h2 k y a1 a2 a3 a4 h => celR_bad2 (O := mt2 O) (S := mt2 S) (rows := rows) (cols := cols) (r := r) (c := c) (re := re) (ce := ce) h1 h2 (y := y) (k := k) a1 a2 a3 a4 h
 have hg3 := hid fun re ce h1 h2 a1 a2 => celR_good (O := mt2 O) (S := mt2 S) (rows := rows) (cols := cols) (r := r) (c := c) (re := re) (ce := ce) h1 h2 a1 a2
 have hcO := Nat.le_trans hO.choose_spec.2.1.cap hO.choose_spec.2.1.max
 have hcS := Nat.le_trans hS.choose_spec.2.1.cap hS.choose_spec.2.1.max
 have hcH := Nat.le_trans hH.cap hH.max
 have hcV := Nat.le_trans hV.cap hV.max
 generalize celR (mt2 O) (mt2 S) rows cols r c = q at *
 have hcond := hid fun (w' : World) (ce : Ce) (h2 : ∀ p, q = some p → ce = boxC ⟨H, V, [], []⟩ (ceR r c p.1 p.2)) (h3 : Below w.heap.size w w') => (show RetCe w ⟨H, V, [], []⟩ r c q (.returned (.tuple #[.agg #[.int .i64 ce.r, .int .i64 ce.c, .int .i64 ce.rs, .int .i64 ce.cs, .int .i64 ce.b.x, .int .i64 ce.b.y, .int .i64 ce.b.w, .int .i64 ce.b.h], .bool q.isSome])) w' from ⟨ce, rfl, h2, h3⟩)
 clear hH hV hO hS lH lV lO lS rO rS bH bV hbd hcO hcS hcH hcV
 generalize mt2 O = oP at *
 generalize mt2 S = sP at *
 go_enter Tryz.func42, Tryz.ntmps42
 go_upto_region 2 with fail
 refine enterR3 (P := fun u => Code.wp _ _ _ _ u) (c0 := [.slice (some ⟨bh, oh, none⟩) (rows + 1) cH, .slice (some ⟨bv_, ov, none⟩) (cols + 1) cV, .slice (some ⟨bo, oo, none⟩) (rows + 1) cO, .slice (some ⟨bs, os, none⟩) (cols + 1) cS]) (c1 := [.int .i64 0, .int .i64 0, .int .i64 0, .int .i64 0, .int .i64 0, .int .i64 0, .int .i64 0, .int .i64 0]) (c2 := [.int .i64 r, .int .i64 c, .int .i64 1, .int .i64 1, .int .i64 0, .int .i64 0, .int .i64 0, .int .i64 0]) ?_
 intro u HB r0 r1 r2 z0 z1 z2 hsz
 replace hsz := hsz.out
 obtain ⟨g1, hg1e⟩ : ∃ x, w.heap.size + 1 = x := ⟨_, rfl⟩
 obtain ⟨gc, hgce⟩ : ∃ x, w.heap.size + 1 + 1 = x := ⟨_, rfl⟩
 rw [hgce] at r2 z2 ⊢
 rw [hg1e] at r1 z1 ⊢
 have hgc0 : w.heap.size ≤ gc := by omega
 have hKp := hid fun (W : World) (hg : u.grownBy W (some gc)) => (show ((W.cell? ⟨w.heap.size, 0, none⟩ = some (.slice (some ⟨bh, oh, none⟩) (rows + 1) cH) ∧ W.cell? ⟨w.heap.size, 1, none⟩ = some (.slice (some ⟨bv_, ov, none⟩) (cols + 1) cV)) ∧ W.cell? ⟨w.heap.size, 2, none⟩ = some (.slice (some ⟨bo, oo, none⟩) (rows + 1) cO) ∧ W.cell? ⟨w.heap.size, 3, none⟩ = some (.slice (some ⟨bs, os, none⟩) (cols + 1) cS)) ∧ (W.rangeAt g1 0 [.int .i64 0, .int .i64 0, .int .i64 0, .int .i64 0, .int .i64 0, .int .i64 0, .int .i64 0, .int .i64 0] ∧ Zn W g1) ∧ Below w.heap.size w W from by
  have hn0 : some w.heap.size ≠ some gc := fun e => by injection e; omega
  have hn1 : some g1 ≠ some gc := fun e => by injection e; omega
  refine ⟨⟨⟨hg.cell (r0 0 _ rfl) hn0, hg.cell (r0 1 _ rfl) hn0⟩, hg.cell (r0 2 _ rfl) hn0, hg.cell (r0 3 _ rfl) hn0⟩, ⟨fun j v hv => hg.cell (r1 j v hv) hn1, ⟨Nat.lt_of_lt_of_le z1.lt hg.size, fun i => (World.frozen?_of_block (a := ⟨g1, i, none⟩) (hg.block _ z1.lt hn1)).trans (z1.fr i)⟩⟩, ?_⟩
  exact Below.grown HB hg (by omega) (fun k e => by injection e; omega))
 have hgu := World.grownBy.refl u (some gc)
 clear HB r0 r1 z0 z1
 go_loopw [] (fun wr => ∃ k : Nat, Hid (Dk (fun x => !sP x r) (c + 1) (c + k)) ∧ (1 ≤ k ∧ c + k ≤ cols) ∧ wr.rangeAt gc 0 [.int .i64 r, .int .i64 c, .int .i64 1, .int .i64 k, .int .i64 0, .int .i64 0, .int .i64 0, .int .i64 0] ∧ Zn wr gc ∧ u.grownBy wr (some gc)) (fun wr => cols + 1 - celM wr gc 3)
 case atStart => exact ⟨1, hid ⟨Nat.le_refl _, fun z h1 h2 => by omega⟩, ⟨Nat.le_refl _, by omega⟩, r2, z2, hgu⟩
 case round =>
  clear r2 z2 hgu
  obtain ⟨k, hD, ⟨hk1, hkc⟩, hr8, hz8, hgb⟩ := hrel
  obtain ⟨⟨⟨-, -⟩, -, c3⟩, -, HBr⟩ := hKp.out wr hgb
  have f0 : wr.cell? ⟨gc, 0, none⟩ = some (.int .i64 r) := hr8 0 _ rfl
  have f1 : wr.cell? ⟨gc, 1, none⟩ = some (.int .i64 c) := hr8 1 _ rfl
  have f2 : wr.cell? ⟨gc, 2, none⟩ = some (.int .i64 1) := hr8 2 _ rfl
  have f3 : wr.cell? ⟨gc, 3, none⟩ = some (.int .i64 k) := hr8 3 _ rfl
  obtain ⟨y, hy⟩ : ∃ x, c + k = x := ⟨_, rfl⟩
  have hyl : y < cols + 1 := by omega
  have hyi : (y : Int) < ((cols + 1 : Nat) : Int) := by omega
  have hri : (r : Int) < (rows : Int) := by omega
  have hwy : IntKind.i64.wrap ((c : Int) + (k : Int)) = (y : Int) := by rw [IntKind.wrap_i64]; omega
  obtain ⟨kn, hkn⟩ : ∃ x, k + 1 = x := ⟨_, rfl⟩
  have hwk : IntKind.i64.wrap ((k : Int) + 1) = (kn : Int) := by rw [IntKind.wrap_i64]; omega
  obtain ⟨g, d1, d2⟩ := hSv.out y r hyl hr wr HBr
  obtain ⟨t, ht⟩ : ∃ t, sP y r = t := ⟨_, rfl⟩
  rw [ht] at d2
  rw [hy] at hD hkc
  cases t
  ·have hD2 := hid (show Dk (fun x => !sP x r) (c + 1) (c + kn) from by
    have := hD.out.next (show (!sP y r) = true by rw [ht]; rfl)
    rw [← hkn, ← Nat.add_assoc, hy]; exact this)
   have hyc : y < cols := by
    by_cases e : y = cols
    ·rw [e, sN r hr] at ht; cases ht
    ·omega
   clear ht hD
   have hmz := hid (celM_eq f3)
   have hmz2 := hid (celM_eq (at_set (u := .int .i64 (kn : Int)) f3))
   have hfin := hid (And.intro (show (wr.setCell ⟨gc, 3, none⟩ (.int .i64 (kn : Int))).rangeAt gc 0 [.int .i64 r, .int .i64 c, .int .i64 1, .int .i64 (kn : Int), .int .i64 0, .int .i64 0, .int .i64 0, .int .i64 0] from rng_setI hr8 (show 3 < 8 by omega)) (And.intro (hz8.set_ (k := gc) (i := 3) (v := .int .i64 (kn : Int))) (hgb.trans (gb_set (i := 3) (v := .int .i64 (kn : Int))))))
   have hfg := hz8.fr
   clear hr8 hz8 hgb HBr
   go_wp2
   go_roundw
   case rel => exact ⟨kn, hD2, ⟨by omega, by omega⟩, hfin.out.1, hfin.out.2.1, hfin.out.2.2⟩
   case measure => rw [hmz.out, hmz2.out]; omega
  ·have hce := hid (show y = endC sP cols r c from (endR_uni hD.out.le (by omega) hD.out.all (fun h => by rw [ht]; rfl)).symm)
   clear ht hD HBr f0 f1 f2 hwk
   obtain ⟨ce, rfl⟩ : ∃ x, x = y := ⟨_, rfl⟩
   obtain ⟨co, rfl⟩ : ∃ x, x = k := ⟨_, rfl⟩
   go_wp2
   clear c3 d1 d2 f3
   obtain ⟨w1, hw1⟩ : ∃ x, x = wr := ⟨_, rfl⟩
   subst hw1
   go_loopw [] (fun wr => ∃ k : Nat, Hid (Dk (fun x => !oP x c) (r + 1) (r + k)) ∧ (1 ≤ k ∧ r + k ≤ rows) ∧ wr.rangeAt gc 0 [.int .i64 r, .int .i64 c, .int .i64 k, .int .i64 co, .int .i64 0, .int .i64 0, .int .i64 0, .int .i64 0] ∧ Zn wr gc ∧ u.grownBy wr (some gc)) (fun wr => rows + 1 - celM wr gc 2)
   case atStart => exact ⟨1, hid ⟨Nat.le_refl _, fun z h1 h2 => by omega⟩, ⟨Nat.le_refl _, by omega⟩, hr8, hz8, hgb⟩
   case round =>
    clear hr8 hz8 hgb
    obtain ⟨k, hD, ⟨hr1, hrc⟩, hr8, hz8, hgb⟩ := hrel
    obtain ⟨⟨⟨-, -⟩, c2, -⟩, -, HBr⟩ := hKp.out wr hgb
    have f0 : wr.cell? ⟨gc, 0, none⟩ = some (.int .i64 r) := hr8 0 _ rfl
    have f1 : wr.cell? ⟨gc, 1, none⟩ = some (.int .i64 c) := hr8 1 _ rfl
    have f2 : wr.cell? ⟨gc, 2, none⟩ = some (.int .i64 k) := hr8 2 _ rfl
    have f3 : wr.cell? ⟨gc, 3, none⟩ = some (.int .i64 co) := hr8 3 _ rfl
    obtain ⟨y, hyr⟩ : ∃ x, r + k = x := ⟨_, rfl⟩
    have hyl : y < rows + 1 := by omega
    have hyi : (y : Int) < ((rows + 1 : Nat) : Int) := by omega
    have hri : (c : Int) < (cols : Int) := by omega
    have hwy : IntKind.i64.wrap ((r : Int) + (k : Int)) = (y : Int) := by rw [IntKind.wrap_i64]; omega
    obtain ⟨kn, hkn⟩ : ∃ x, k + 1 = x := ⟨_, rfl⟩
    have hwk : IntKind.i64.wrap ((k : Int) + 1) = (kn : Int) := by rw [IntKind.wrap_i64]; omega
    obtain ⟨g, d1, d2⟩ := hOv.out y c hyl hc wr HBr
    obtain ⟨t, ht⟩ : ∃ t, oP y c = t := ⟨_, rfl⟩
    rw [ht] at d2
    rw [hyr] at hD hrc
    cases t
    ·have hD2 := hid (show Dk (fun x => !oP x c) (r + 1) (r + kn) from by
      have := hD.out.next (show (!oP y c) = true by rw [ht]; rfl)
      rw [← hkn, ← Nat.add_assoc, hyr]; exact this)
     have hyc : y < rows := by
      by_cases e : y = rows
      ·rw [e, oN c hc] at ht; cases ht
      ·omega
     clear ht hD
     have hmz := hid (celM_eq f2)
     have hmz2 := hid (celM_eq (at_set (u := .int .i64 (kn : Int)) f2))
     have hfin := hid (And.intro (show (wr.setCell ⟨gc, 2, none⟩ (.int .i64 (kn : Int))).rangeAt gc 0 [.int .i64 r, .int .i64 c, .int .i64 (kn : Int), .int .i64 co, .int .i64 0, .int .i64 0, .int .i64 0, .int .i64 0] from rng_setI hr8 (show 2 < 8 by omega)) (And.intro (hz8.set_ (k := gc) (i := 2) (v := .int .i64 (kn : Int))) (hgb.trans (gb_set (i := 2) (v := .int .i64 (kn : Int))))))
     have hfg := hz8.fr
     clear hr8 hz8 hgb HBr
     go_wp2
     go_roundw
     case rel => exact ⟨kn, hD2, ⟨by omega, by omega⟩, hfin.out.1, hfin.out.2.1, hfin.out.2.2⟩
     case measure => rw [hmz.out, hmz2.out]; omega
    ·have hre := hid (show y = endO oP rows r c from (endR_uni hD.out.le (by omega) hD.out.all (fun h => by rw [ht]; rfl)).symm)
     clear ht hD HBr f0 f1 f3 hwk sN oN
     obtain ⟨re, rfl⟩ : ∃ x, x = y := ⟨_, rfl⟩
     obtain ⟨ro, rfl⟩ : ∃ x, x = k := ⟨_, rfl⟩
     replace hg1 := hid (hg1.out re ce hre.out hce.out)
     replace hg2 := hid (hg2.out re ce hre.out hce.out)
     replace hg3 := hid (hg3.out re ce hre.out hce.out)
     clear hre hce
     go_wp2
     clear f2 c2 d1 d2 hwy
     have hKq := hid fun (W : World) (hb : Below wr.heap.size wr W) => (show (((W.cell? ⟨w.heap.size, 0, none⟩ = some (.slice (some ⟨bh, oh, none⟩) (rows + 1) cH) ∧ W.cell? ⟨w.heap.size, 1, none⟩ = some (.slice (some ⟨bv_, ov, none⟩) (cols + 1) cV)) ∧ W.cell? ⟨w.heap.size, 2, none⟩ = some (.slice (some ⟨bo, oo, none⟩) (rows + 1) cO) ∧ W.cell? ⟨w.heap.size, 3, none⟩ = some (.slice (some ⟨bs, os, none⟩) (cols + 1) cS)) ∧ (W.rangeAt g1 0 [.int .i64 0, .int .i64 0, .int .i64 0, .int .i64 0, .int .i64 0, .int .i64 0, .int .i64 0, .int .i64 0] ∧ Zn W g1) ∧ Below w.heap.size w W) ∧ W.rangeAt gc 0 [.int .i64 r, .int .i64 c, .int .i64 ro, .int .i64 co, .int .i64 0, .int .i64 0, .int .i64 0, .int .i64 0] ∧ Zn W gc from
      ⟨hKp.out W (hgb.trans (gb_below hb)), rng_below hr8 hb, hz8.below hb⟩)
     have hwc := hgb.size
     clear hKp hr8 hz8 hgb
     obtain ⟨w2, hw2⟩ : ∃ x, x = wr := ⟨_, rfl⟩
     subst hw2
     have hwr : IntKind.i64.wrap ((r : Int) + (ro : Int)) = (re : Int) := by rw [IntKind.wrap_i64]; omega
     have hwc' : IntKind.i64.wrap ((c : Int) + (co : Int)) = (ce : Int) := by rw [IntKind.wrap_i64]; omega
     have hb2 := Below.refl w2.heap.size w2
     go_loopw [9] (fun so_ wr => ∃ a : Nat, so_ = .int .i64 a ∧ (r ≤ a ∧ a ≤ re) ∧ Hid (∀ y k, r ≤ y → y < a → c ≤ k → k ≤ ce → sP k y = (k == c || k == ce)) ∧ Below w2.heap.size w2 wr) (fun so_ _ => re - (intOf so_).toNat)
     case atStart => exact ⟨r, rfl, ⟨Nat.le_refl _, by omega⟩, hid (fun y k h1 h2 => by omega), hb2⟩
     case round =>
      clear hb2
      obtain ⟨a, rfl, ⟨ha1, ha2⟩, hA, hb⟩ := hrel
      obtain ⟨⟨⟨⟨c0, c1⟩, c2, c3⟩, -, HBr⟩, hr8, -⟩ := hKq.out wr hb
      have f0 : wr.cell? ⟨gc, 0, none⟩ = some (.int .i64 r) := hr8 0 _ rfl
      have f1 : wr.cell? ⟨gc, 1, none⟩ = some (.int .i64 c) := hr8 1 _ rfl
      have f2 : wr.cell? ⟨gc, 2, none⟩ = some (.int .i64 ro) := hr8 2 _ rfl
      have f3 : wr.cell? ⟨gc, 3, none⟩ = some (.int .i64 co) := hr8 3 _ rfl
      clear hr8
      by_cases hae : a < re
      ·have haei : (a : Int) < (re : Int) := by omega
       go_wp2
       clear c0 c1 c2 c3 f0 f1 f2 f3 HBr
       obtain ⟨w3, hw3⟩ : ∃ x, x = wr := ⟨_, rfl⟩
       subst hw3
       go_loopw [10] (fun si_ wr => ∃ b : Nat, si_ = .int .i64 b ∧ (c ≤ b ∧ b ≤ ce + 1) ∧ Hid (∀ k, c ≤ k → k < b → sP k a = (k == c || k == ce)) ∧ Below w2.heap.size w2 wr) (fun si_ _ => ce + 1 - (intOf si_).toNat)
       case atStart => exact ⟨c, rfl, ⟨Nat.le_refl _, by omega⟩, hid (fun k h1 h2 => by omega), hb⟩
       case round =>
        clear hb
        obtain ⟨b, rfl, ⟨hb1, hb2⟩, hI, hb⟩ := hrel
        obtain ⟨⟨⟨⟨c0, c1⟩, c2, c3⟩, -, HBr⟩, hr8, -⟩ := hKq.out wr hb
        have f0 : wr.cell? ⟨gc, 0, none⟩ = some (.int .i64 r) := hr8 0 _ rfl
        have f1 : wr.cell? ⟨gc, 1, none⟩ = some (.int .i64 c) := hr8 1 _ rfl
        have f2 : wr.cell? ⟨gc, 2, none⟩ = some (.int .i64 ro) := hr8 2 _ rfl
        have f3 : wr.cell? ⟨gc, 3, none⟩ = some (.int .i64 co) := hr8 3 _ rfl
        clear hr8
        by_cases hbe : b ≤ ce
        ·have hbei : (b : Int) ≤ (ce : Int) := by omega
         have hbn : b < cols + 1 := by omega
         have han : a < rows := by omega
         have hbni : (b : Int) < ((cols + 1 : Nat) : Int) := by omega
         have hani : (a : Int) < (rows : Int) := by omega
         obtain ⟨g, d1, d2⟩ := hSv.out b a hbn han wr HBr
         obtain ⟨t, ht⟩ : ∃ t, sP b a = t := ⟨_, rfl⟩
         rw [ht] at d2
         by_cases e1 : b = c
         ·have e1b : ((b : Int) == (c : Int)) = true := beq_iff_eq.2 (by omega)
          cases t
          ·skip
           have hqn := hg1.out a b ha1 hae hb1 hbe (by rw [ht]; simp; try omega)
           clear hA hI ht
           (try clear e1)
           (try clear e2)
           go_upto_region 12 with fail
           (try simp only [List.append])
           go_quiet (fail)
           have hv_ : Below wr.heap.size wr (wr.drewN nq) := below_drewN (Below.refl _ _) _
           generalize wr.drewN nq = x3 at hv_ ⊢
           have hb3 := bel_step hb hv_
           clear hv_ d1 d2 c0 c1 c2 c3 f0 f1 f2 f3 HBr
           -- the cell is no rectangle
           obtain rfl := hqn
           obtain ⟨⟨-, ⟨rr1, zz1⟩, HBx⟩, hrx8, -⟩ := hKq.out x3 hb3
           have m0 : x3.cell? ⟨gc, 0, none⟩ = some (.int .i64 r) := hrx8 0 _ rfl
           have m1 : x3.cell? ⟨gc, 1, none⟩ = some (.int .i64 c) := hrx8 1 _ rfl
           have m2 : x3.cell? ⟨gc, 2, none⟩ = some (.int .i64 ro) := hrx8 2 _ rfl
           have m3 : x3.cell? ⟨gc, 3, none⟩ = some (.int .i64 co) := hrx8 3 _ rfl
           have m4 : x3.cell? ⟨gc, 4, none⟩ = some (.int .i64 0) := hrx8 4 _ rfl
           have m5 : x3.cell? ⟨gc, 5, none⟩ = some (.int .i64 0) := hrx8 5 _ rfl
           have m6 : x3.cell? ⟨gc, 6, none⟩ = some (.int .i64 0) := hrx8 6 _ rfl
           have m7 : x3.cell? ⟨gc, 7, none⟩ = some (.int .i64 0) := hrx8 7 _ rfl
           have k0 : x3.cell? ⟨g1, 0, none⟩ = some (.int .i64 0) := rr1 0 _ rfl
           have k1 : x3.cell? ⟨g1, 1, none⟩ = some (.int .i64 0) := rr1 1 _ rfl
           have k2 : x3.cell? ⟨g1, 2, none⟩ = some (.int .i64 0) := rr1 2 _ rfl
           have k3 : x3.cell? ⟨g1, 3, none⟩ = some (.int .i64 0) := rr1 3 _ rfl
           have k4 : x3.cell? ⟨g1, 4, none⟩ = some (.int .i64 0) := rr1 4 _ rfl
           have k5 : x3.cell? ⟨g1, 5, none⟩ = some (.int .i64 0) := rr1 5 _ rfl
           have k6 : x3.cell? ⟨g1, 6, none⟩ = some (.int .i64 0) := rr1 6 _ rfl
           have k7 : x3.cell? ⟨g1, 7, none⟩ = some (.int .i64 0) := rr1 7 _ rfl
           have fk := zz1.fr
           have ltk := cell_lt k0
           have hg1w : w.heap.size ≤ g1 := by omega
           have HBf := hid (below_set (below_set (below_set (below_set (below_set (below_set (below_set (below_set HBx hg1w 0 (.int .i64 r)) hg1w 1 (.int .i64 c)) hg1w 2 (.int .i64 ro)) hg1w 3 (.int .i64 co)) hg1w 4 (.int .i64 0)) hg1w 5 (.int .i64 0)) hg1w 6 (.int .i64 0)) hg1w 7 (.int .i64 0))
           clear hKq hb3 rr1 zz1 HBx hrx8 hg1 hg2 hg3 hbox hHv hVv hOv hSv hHb hVb
           go_wp2
           refine bodyPost_ret (v := .tuple #[.agg #[.int .i64 r, .int .i64 c, .int .i64 ro, .int .i64 co, .int .i64 0, .int .i64 0, .int .i64 0, .int .i64 0], .bool false]) ?_ rfl ?_
           ·simp [results, Tryz.results42, go_sem, k0, k1, k2, k3, k4, k5, k6, k7]
           ·exact hcond.out _ ⟨r, c, ro, co, ⟨0, 0, 0, 0⟩⟩ (fun p h => by cases h) HBf.out
          ·skip
           have hI2 := hid (fun (x : Nat) (h1 : c ≤ x) (h2 : x < b + 1) => (show sP x a = (x == c || x == ce) from by
            by_cases e : x = b
            ·rw [e, ht]; simp; try omega
            ·exact hI.out x h1 (by omega)))
           clear ht hI
           (try clear e1)
           (try clear e2)
           go_upto_region 12 with fail
           (try simp only [List.append])
           go_quiet (fail)
           have hv_ : Below wr.heap.size wr (wr.drewN nq) := below_drewN (Below.refl _ _) _
           generalize wr.drewN nq = x3 at hv_ ⊢
           have hb3 := bel_step hb hv_
           clear hv_ d1 d2 c0 c1 c2 c3 f0 f1 f2 f3 HBr
           go_wp2
           go_roundw
           case rel => exact ⟨b + 1, by go_num, ⟨by omega, by omega⟩, hI2, hb3⟩
           case measure => simp [intOf]; omega
         ·have e1b : ((b : Int) == (c : Int)) = false := beq_eq_false_iff_ne.2 (by omega)
          by_cases e2 : b = ce
          ·have e2b : ((b : Int) == (ce : Int)) = true := beq_iff_eq.2 (by omega)
           cases t
           ·skip
            have hqn := hg1.out a b ha1 hae hb1 hbe (by rw [ht]; simp; try omega)
            clear hA hI ht
            (try clear e1)
            (try clear e2)
            go_upto_region 12 with fail
            (try simp only [List.append])
            go_quiet (fail)
            have hv_ : Below wr.heap.size wr (wr.drewN nq) := below_drewN (Below.refl _ _) _
            generalize wr.drewN nq = x3 at hv_ ⊢
            have hb3 := bel_step hb hv_
            clear hv_ d1 d2 c0 c1 c2 c3 f0 f1 f2 f3 HBr
            -- the cell is no rectangle
            obtain rfl := hqn
            obtain ⟨⟨-, ⟨rr1, zz1⟩, HBx⟩, hrx8, -⟩ := hKq.out x3 hb3
            have m0 : x3.cell? ⟨gc, 0, none⟩ = some (.int .i64 r) := hrx8 0 _ rfl
            have m1 : x3.cell? ⟨gc, 1, none⟩ = some (.int .i64 c) := hrx8 1 _ rfl
            have m2 : x3.cell? ⟨gc, 2, none⟩ = some (.int .i64 ro) := hrx8 2 _ rfl
            have m3 : x3.cell? ⟨gc, 3, none⟩ = some (.int .i64 co) := hrx8 3 _ rfl
            have m4 : x3.cell? ⟨gc, 4, none⟩ = some (.int .i64 0) := hrx8 4 _ rfl
            have m5 : x3.cell? ⟨gc, 5, none⟩ = some (.int .i64 0) := hrx8 5 _ rfl
            have m6 : x3.cell? ⟨gc, 6, none⟩ = some (.int .i64 0) := hrx8 6 _ rfl
            have m7 : x3.cell? ⟨gc, 7, none⟩ = some (.int .i64 0) := hrx8 7 _ rfl
            have k0 : x3.cell? ⟨g1, 0, none⟩ = some (.int .i64 0) := rr1 0 _ rfl
            have k1 : x3.cell? ⟨g1, 1, none⟩ = some (.int .i64 0) := rr1 1 _ rfl
            have k2 : x3.cell? ⟨g1, 2, none⟩ = some (.int .i64 0) := rr1 2 _ rfl
            have k3 : x3.cell? ⟨g1, 3, none⟩ = some (.int .i64 0) := rr1 3 _ rfl
            have k4 : x3.cell? ⟨g1, 4, none⟩ = some (.int .i64 0) := rr1 4 _ rfl
            have k5 : x3.cell? ⟨g1, 5, none⟩ = some (.int .i64 0) := rr1 5 _ rfl
            have k6 : x3.cell? ⟨g1, 6, none⟩ = some (.int .i64 0) := rr1 6 _ rfl
            have k7 : x3.cell? ⟨g1, 7, none⟩ = some (.int .i64 0) := rr1 7 _ rfl
            have fk := zz1.fr
            have ltk := cell_lt k0
            have hg1w : w.heap.size ≤ g1 := by omega
            have HBf := hid (below_set (below_set (below_set (below_set (below_set (below_set (below_set (below_set HBx hg1w 0 (.int .i64 r)) hg1w 1 (.int .i64 c)) hg1w 2 (.int .i64 ro)) hg1w 3 (.int .i64 co)) hg1w 4 (.int .i64 0)) hg1w 5 (.int .i64 0)) hg1w 6 (.int .i64 0)) hg1w 7 (.int .i64 0))
            clear hKq hb3 rr1 zz1 HBx hrx8 hg1 hg2 hg3 hbox hHv hVv hOv hSv hHb hVb
            go_wp2
            refine bodyPost_ret (v := .tuple #[.agg #[.int .i64 r, .int .i64 c, .int .i64 ro, .int .i64 co, .int .i64 0, .int .i64 0, .int .i64 0, .int .i64 0], .bool false]) ?_ rfl ?_
            ·simp [results, Tryz.results42, go_sem, k0, k1, k2, k3, k4, k5, k6, k7]
            ·exact hcond.out _ ⟨r, c, ro, co, ⟨0, 0, 0, 0⟩⟩ (fun p h => by cases h) HBf.out
           ·skip
            have hI2 := hid (fun (x : Nat) (h1 : c ≤ x) (h2 : x < b + 1) => (show sP x a = (x == c || x == ce) from by
             by_cases e : x = b
             ·rw [e, ht]; simp; try omega
             ·exact hI.out x h1 (by omega)))
            clear ht hI
            (try clear e1)
            (try clear e2)
            go_upto_region 12 with fail
            (try simp only [List.append])
            go_quiet (fail)
            have hv_ : Below wr.heap.size wr (wr.drewN nq) := below_drewN (Below.refl _ _) _
            generalize wr.drewN nq = x3 at hv_ ⊢
            have hb3 := bel_step hb hv_
            clear hv_ d1 d2 c0 c1 c2 c3 f0 f1 f2 f3 HBr
            go_wp2
            go_roundw
            case rel => exact ⟨b + 1, by go_num, ⟨by omega, by omega⟩, hI2, hb3⟩
            case measure => simp [intOf]; omega
          ·have e2b : ((b : Int) == (ce : Int)) = false := beq_eq_false_iff_ne.2 (by omega)
           cases t
           ·skip
            have hI2 := hid (fun (x : Nat) (h1 : c ≤ x) (h2 : x < b + 1) => (show sP x a = (x == c || x == ce) from by
             by_cases e : x = b
             ·rw [e, ht]; simp; try omega
             ·exact hI.out x h1 (by omega)))
            clear ht hI
            (try clear e1)
            (try clear e2)
            go_upto_region 12 with fail
            (try simp only [List.append])
            go_quiet (fail)
            have hv_ : Below wr.heap.size wr (wr.drewN nq) := below_drewN (Below.refl _ _) _
            generalize wr.drewN nq = x3 at hv_ ⊢
            have hb3 := bel_step hb hv_
            clear hv_ d1 d2 c0 c1 c2 c3 f0 f1 f2 f3 HBr
            go_wp2
            go_roundw
            case rel => exact ⟨b + 1, by go_num, ⟨by omega, by omega⟩, hI2, hb3⟩
            case measure => simp [intOf]; omega
           ·skip
            have hqn := hg1.out a b ha1 hae hb1 hbe (by rw [ht]; simp; try omega)
            clear hA hI ht
            (try clear e1)
            (try clear e2)
            go_upto_region 12 with fail
            (try simp only [List.append])
            go_quiet (fail)
            have hv_ : Below wr.heap.size wr (wr.drewN nq) := below_drewN (Below.refl _ _) _
            generalize wr.drewN nq = x3 at hv_ ⊢
            have hb3 := bel_step hb hv_
            clear hv_ d1 d2 c0 c1 c2 c3 f0 f1 f2 f3 HBr
            -- the cell is no rectangle
            obtain rfl := hqn
            obtain ⟨⟨-, ⟨rr1, zz1⟩, HBx⟩, hrx8, -⟩ := hKq.out x3 hb3
            have m0 : x3.cell? ⟨gc, 0, none⟩ = some (.int .i64 r) := hrx8 0 _ rfl
            have m1 : x3.cell? ⟨gc, 1, none⟩ = some (.int .i64 c) := hrx8 1 _ rfl
            have m2 : x3.cell? ⟨gc, 2, none⟩ = some (.int .i64 ro) := hrx8 2 _ rfl
            have m3 : x3.cell? ⟨gc, 3, none⟩ = some (.int .i64 co) := hrx8 3 _ rfl
            have m4 : x3.cell? ⟨gc, 4, none⟩ = some (.int .i64 0) := hrx8 4 _ rfl
            have m5 : x3.cell? ⟨gc, 5, none⟩ = some (.int .i64 0) := hrx8 5 _ rfl
            have m6 : x3.cell? ⟨gc, 6, none⟩ = some (.int .i64 0) := hrx8 6 _ rfl
            have m7 : x3.cell? ⟨gc, 7, none⟩ = some (.int .i64 0) := hrx8 7 _ rfl
            have k0 : x3.cell? ⟨g1, 0, none⟩ = some (.int .i64 0) := rr1 0 _ rfl
            have k1 : x3.cell? ⟨g1, 1, none⟩ = some (.int .i64 0) := rr1 1 _ rfl
            have k2 : x3.cell? ⟨g1, 2, none⟩ = some (.int .i64 0) := rr1 2 _ rfl
            have k3 : x3.cell? ⟨g1, 3, none⟩ = some (.int .i64 0) := rr1 3 _ rfl
            have k4 : x3.cell? ⟨g1, 4, none⟩ = some (.int .i64 0) := rr1 4 _ rfl
            have k5 : x3.cell? ⟨g1, 5, none⟩ = some (.int .i64 0) := rr1 5 _ rfl
            have k6 : x3.cell? ⟨g1, 6, none⟩ = some (.int .i64 0) := rr1 6 _ rfl
            have k7 : x3.cell? ⟨g1, 7, none⟩ = some (.int .i64 0) := rr1 7 _ rfl
            have fk := zz1.fr
            have ltk := cell_lt k0
            have hg1w : w.heap.size ≤ g1 := by omega
            have HBf := hid (below_set (below_set (below_set (below_set (below_set (below_set (below_set (below_set HBx hg1w 0 (.int .i64 r)) hg1w 1 (.int .i64 c)) hg1w 2 (.int .i64 ro)) hg1w 3 (.int .i64 co)) hg1w 4 (.int .i64 0)) hg1w 5 (.int .i64 0)) hg1w 6 (.int .i64 0)) hg1w 7 (.int .i64 0))
            clear hKq hb3 rr1 zz1 HBx hrx8 hg1 hg2 hg3 hbox hHv hVv hOv hSv hHb hVb
            go_wp2
            refine bodyPost_ret (v := .tuple #[.agg #[.int .i64 r, .int .i64 c, .int .i64 ro, .int .i64 co, .int .i64 0, .int .i64 0, .int .i64 0, .int .i64 0], .bool false]) ?_ rfl ?_
            ·simp [results, Tryz.results42, go_sem, k0, k1, k2, k3, k4, k5, k6, k7]
            ·exact hcond.out _ ⟨r, c, ro, co, ⟨0, 0, 0, 0⟩⟩ (fun p h => by cases h) HBf.out
        ·obtain rfl : b = ce + 1 := by omega
         have hbei : ¬ (((ce + 1 : Nat) : Int) ≤ (ce : Int)) := by omega
         have hA2 := hid (fun (y k : Nat) (h1 : r ≤ y) (h2 : y < a + 1) (h3 : c ≤ k) (h4 : k ≤ ce) => (show sP k y = (k == c || k == ce) from by
          by_cases e : y = a
          ·rw [e]; exact hI.out k h3 (by omega)
          ·exact hA.out y k h1 (by omega) h3 h4))
         clear hA hI
         go_wp2
         go_roundw
         case rel => exact ⟨a + 1, by go_num, ⟨by omega, by omega⟩, hA2, hb⟩
         case measure => simp [intOf]; omega
      ·obtain rfl : re = a := by omega
       have haei : ¬ (re : Int) < (re : Int) := by omega
       go_wp2
       clear c0 c1 c2 c3 f0 f1 f2 f3 HBr
       have hA1 := hA
       have hb2 := hb
       clear hA hb
       go_loopw [11] (fun so_ wr => ∃ a : Nat, so_ = .int .i64 a ∧ (c ≤ a ∧ a ≤ ce) ∧ Hid (∀ y k, c ≤ y → y < a → r ≤ k → k ≤ re → oP k y = (k == r || k == re)) ∧ Below w2.heap.size w2 wr) (fun so_ _ => ce - (intOf so_).toNat)
       case atStart => exact ⟨c, rfl, ⟨Nat.le_refl _, by omega⟩, hid (fun y k h1 h2 => by omega), hb2⟩
       case round =>
        clear hb2
        obtain ⟨a, rfl, ⟨ha1, ha2⟩, hA, hb⟩ := hrel
        obtain ⟨⟨⟨⟨c0, c1⟩, c2, c3⟩, -, HBr⟩, hr8, -⟩ := hKq.out wr hb
        have f0 : wr.cell? ⟨gc, 0, none⟩ = some (.int .i64 r) := hr8 0 _ rfl
        have f1 : wr.cell? ⟨gc, 1, none⟩ = some (.int .i64 c) := hr8 1 _ rfl
        have f2 : wr.cell? ⟨gc, 2, none⟩ = some (.int .i64 ro) := hr8 2 _ rfl
        have f3 : wr.cell? ⟨gc, 3, none⟩ = some (.int .i64 co) := hr8 3 _ rfl
        clear hr8
        by_cases hae : a < ce
        ·have haei : (a : Int) < (ce : Int) := by omega
         go_wp2
         clear c0 c1 c2 c3 f0 f1 f2 f3 HBr
         obtain ⟨w3, hw3⟩ : ∃ x, x = wr := ⟨_, rfl⟩
         subst hw3
         go_loopw [12] (fun si_ wr => ∃ b : Nat, si_ = .int .i64 b ∧ (r ≤ b ∧ b ≤ re + 1) ∧ Hid (∀ k, r ≤ k → k < b → oP k a = (k == r || k == re)) ∧ Below w2.heap.size w2 wr) (fun si_ _ => re + 1 - (intOf si_).toNat)
         case atStart => exact ⟨r, rfl, ⟨Nat.le_refl _, by omega⟩, hid (fun k h1 h2 => by omega), hb⟩
         case round =>
          clear hb
          obtain ⟨b, rfl, ⟨hb1, hb2⟩, hI, hb⟩ := hrel
          obtain ⟨⟨⟨⟨c0, c1⟩, c2, c3⟩, -, HBr⟩, hr8, -⟩ := hKq.out wr hb
          have f0 : wr.cell? ⟨gc, 0, none⟩ = some (.int .i64 r) := hr8 0 _ rfl
          have f1 : wr.cell? ⟨gc, 1, none⟩ = some (.int .i64 c) := hr8 1 _ rfl
          have f2 : wr.cell? ⟨gc, 2, none⟩ = some (.int .i64 ro) := hr8 2 _ rfl
          have f3 : wr.cell? ⟨gc, 3, none⟩ = some (.int .i64 co) := hr8 3 _ rfl
          clear hr8
          by_cases hbe : b ≤ re
          ·have hbei : (b : Int) ≤ (re : Int) := by omega
           have hbn : b < rows + 1 := by omega
           have han : a < cols := by omega
           have hbni : (b : Int) < ((rows + 1 : Nat) : Int) := by omega
           have hani : (a : Int) < (cols : Int) := by omega
           obtain ⟨g, d1, d2⟩ := hOv.out b a hbn han wr HBr
           obtain ⟨t, ht⟩ : ∃ t, oP b a = t := ⟨_, rfl⟩
           rw [ht] at d2
           by_cases e1 : b = r
           ·have e1b : ((b : Int) == (r : Int)) = true := beq_iff_eq.2 (by omega)
            cases t
            ·skip
             have hqn := hg2.out a b ha1 hae hb1 hbe (by rw [ht]; simp; try omega)
             clear hA hI ht
             (try clear e1)
             (try clear e2)
             go_upto_region 20 with fail
             (try simp only [List.append])
             go_quiet (fail)
             have hv_ : Below wr.heap.size wr (wr.drewN nq) := below_drewN (Below.refl _ _) _
             generalize wr.drewN nq = x3 at hv_ ⊢
             have hb3 := bel_step hb hv_
             clear hv_ d1 d2 c0 c1 c2 c3 f0 f1 f2 f3 HBr
             -- the cell is no rectangle
             obtain rfl := hqn
             obtain ⟨⟨-, ⟨rr1, zz1⟩, HBx⟩, hrx8, -⟩ := hKq.out x3 hb3
             have m0 : x3.cell? ⟨gc, 0, none⟩ = some (.int .i64 r) := hrx8 0 _ rfl
             have m1 : x3.cell? ⟨gc, 1, none⟩ = some (.int .i64 c) := hrx8 1 _ rfl
             have m2 : x3.cell? ⟨gc, 2, none⟩ = some (.int .i64 ro) := hrx8 2 _ rfl
             have m3 : x3.cell? ⟨gc, 3, none⟩ = some (.int .i64 co) := hrx8 3 _ rfl
             have m4 : x3.cell? ⟨gc, 4, none⟩ = some (.int .i64 0) := hrx8 4 _ rfl
             have m5 : x3.cell? ⟨gc, 5, none⟩ = some (.int .i64 0) := hrx8 5 _ rfl
             have m6 : x3.cell? ⟨gc, 6, none⟩ = some (.int .i64 0) := hrx8 6 _ rfl
             have m7 : x3.cell? ⟨gc, 7, none⟩ = some (.int .i64 0) := hrx8 7 _ rfl
             have k0 : x3.cell? ⟨g1, 0, none⟩ = some (.int .i64 0) := rr1 0 _ rfl
             have k1 : x3.cell? ⟨g1, 1, none⟩ = some (.int .i64 0) := rr1 1 _ rfl
             have k2 : x3.cell? ⟨g1, 2, none⟩ = some (.int .i64 0) := rr1 2 _ rfl
             have k3 : x3.cell? ⟨g1, 3, none⟩ = some (.int .i64 0) := rr1 3 _ rfl
             have k4 : x3.cell? ⟨g1, 4, none⟩ = some (.int .i64 0) := rr1 4 _ rfl
             have k5 : x3.cell? ⟨g1, 5, none⟩ = some (.int .i64 0) := rr1 5 _ rfl
             have k6 : x3.cell? ⟨g1, 6, none⟩ = some (.int .i64 0) := rr1 6 _ rfl
             have k7 : x3.cell? ⟨g1, 7, none⟩ = some (.int .i64 0) := rr1 7 _ rfl
             have fk := zz1.fr
             have ltk := cell_lt k0
             have hg1w : w.heap.size ≤ g1 := by omega
             have HBf := hid (below_set (below_set (below_set (below_set (below_set (below_set (below_set (below_set HBx hg1w 0 (.int .i64 r)) hg1w 1 (.int .i64 c)) hg1w 2 (.int .i64 ro)) hg1w 3 (.int .i64 co)) hg1w 4 (.int .i64 0)) hg1w 5 (.int .i64 0)) hg1w 6 (.int .i64 0)) hg1w 7 (.int .i64 0))
             clear hKq hb3 rr1 zz1 HBx hrx8 hg1 hg2 hg3 hbox hHv hVv hOv hSv hHb hVb
             go_wp2
             refine bodyPost_ret (v := .tuple #[.agg #[.int .i64 r, .int .i64 c, .int .i64 ro, .int .i64 co, .int .i64 0, .int .i64 0, .int .i64 0, .int .i64 0], .bool false]) ?_ rfl ?_
             ·simp [results, Tryz.results42, go_sem, k0, k1, k2, k3, k4, k5, k6, k7]
             ·exact hcond.out _ ⟨r, c, ro, co, ⟨0, 0, 0, 0⟩⟩ (fun p h => by cases h) HBf.out
            ·skip
             have hI2 := hid (fun (x : Nat) (h1 : r ≤ x) (h2 : x < b + 1) => (show oP x a = (x == r || x == re) from by
              by_cases e : x = b
              ·rw [e, ht]; simp; try omega
              ·exact hI.out x h1 (by omega)))
             clear ht hI
             (try clear e1)
             (try clear e2)
             go_upto_region 20 with fail
             (try simp only [List.append])
             go_quiet (fail)
             have hv_ : Below wr.heap.size wr (wr.drewN nq) := below_drewN (Below.refl _ _) _
             generalize wr.drewN nq = x3 at hv_ ⊢
             have hb3 := bel_step hb hv_
             clear hv_ d1 d2 c0 c1 c2 c3 f0 f1 f2 f3 HBr
             go_wp2
             go_roundw
             case rel => exact ⟨b + 1, by go_num, ⟨by omega, by omega⟩, hI2, hb3⟩
             case measure => simp [intOf]; omega
           ·have e1b : ((b : Int) == (r : Int)) = false := beq_eq_false_iff_ne.2 (by omega)
            by_cases e2 : b = re
            ·have e2b : ((b : Int) == (re : Int)) = true := beq_iff_eq.2 (by omega)
             cases t
             ·skip
              have hqn := hg2.out a b ha1 hae hb1 hbe (by rw [ht]; simp; try omega)
              clear hA hI ht
              (try clear e1)
              (try clear e2)
              go_upto_region 20 with fail
              (try simp only [List.append])
              go_quiet (fail)
              have hv_ : Below wr.heap.size wr (wr.drewN nq) := below_drewN (Below.refl _ _) _
              generalize wr.drewN nq = x3 at hv_ ⊢
              have hb3 := bel_step hb hv_
              clear hv_ d1 d2 c0 c1 c2 c3 f0 f1 f2 f3 HBr
              -- the cell is no rectangle
              obtain rfl := hqn
              obtain ⟨⟨-, ⟨rr1, zz1⟩, HBx⟩, hrx8, -⟩ := hKq.out x3 hb3
              have m0 : x3.cell? ⟨gc, 0, none⟩ = some (.int .i64 r) := hrx8 0 _ rfl
              have m1 : x3.cell? ⟨gc, 1, none⟩ = some (.int .i64 c) := hrx8 1 _ rfl
              have m2 : x3.cell? ⟨gc, 2, none⟩ = some (.int .i64 ro) := hrx8 2 _ rfl
              have m3 : x3.cell? ⟨gc, 3, none⟩ = some (.int .i64 co) := hrx8 3 _ rfl
              have m4 : x3.cell? ⟨gc, 4, none⟩ = some (.int .i64 0) := hrx8 4 _ rfl
              have m5 : x3.cell? ⟨gc, 5, none⟩ = some (.int .i64 0) := hrx8 5 _ rfl
              have m6 : x3.cell? ⟨gc, 6, none⟩ = some (.int .i64 0) := hrx8 6 _ rfl
              have m7 : x3.cell? ⟨gc, 7, none⟩ = some (.int .i64 0) := hrx8 7 _ rfl
              have k0 : x3.cell? ⟨g1, 0, none⟩ = some (.int .i64 0) := rr1 0 _ rfl
              have k1 : x3.cell? ⟨g1, 1, none⟩ = some (.int .i64 0) := rr1 1 _ rfl
              have k2 : x3.cell? ⟨g1, 2, none⟩ = some (.int .i64 0) := rr1 2 _ rfl
              have k3 : x3.cell? ⟨g1, 3, none⟩ = some (.int .i64 0) := rr1 3 _ rfl
              have k4 : x3.cell? ⟨g1, 4, none⟩ = some (.int .i64 0) := rr1 4 _ rfl
              have k5 : x3.cell? ⟨g1, 5, none⟩ = some (.int .i64 0) := rr1 5 _ rfl
              have k6 : x3.cell? ⟨g1, 6, none⟩ = some (.int .i64 0) := rr1 6 _ rfl
              have k7 : x3.cell? ⟨g1, 7, none⟩ = some (.int .i64 0) := rr1 7 _ rfl
              have fk := zz1.fr
              have ltk := cell_lt k0
              have hg1w : w.heap.size ≤ g1 := by omega
              have HBf := hid (below_set (below_set (below_set (below_set (below_set (below_set (below_set (below_set HBx hg1w 0 (.int .i64 r)) hg1w 1 (.int .i64 c)) hg1w 2 (.int .i64 ro)) hg1w 3 (.int .i64 co)) hg1w 4 (.int .i64 0)) hg1w 5 (.int .i64 0)) hg1w 6 (.int .i64 0)) hg1w 7 (.int .i64 0))
              clear hKq hb3 rr1 zz1 HBx hrx8 hg1 hg2 hg3 hbox hHv hVv hOv hSv hHb hVb
              go_wp2
              refine bodyPost_ret (v := .tuple #[.agg #[.int .i64 r, .int .i64 c, .int .i64 ro, .int .i64 co, .int .i64 0, .int .i64 0, .int .i64 0, .int .i64 0], .bool false]) ?_ rfl ?_
              ·simp [results, Tryz.results42, go_sem, k0, k1, k2, k3, k4, k5, k6, k7]
              ·exact hcond.out _ ⟨r, c, ro, co, ⟨0, 0, 0, 0⟩⟩ (fun p h => by cases h) HBf.out
             ·skip
              have hI2 := hid (fun (x : Nat) (h1 : r ≤ x) (h2 : x < b + 1) => (show oP x a = (x == r || x == re) from by
               by_cases e : x = b
               ·rw [e, ht]; simp; try omega
               ·exact hI.out x h1 (by omega)))
              clear ht hI
              (try clear e1)
              (try clear e2)
              go_upto_region 20 with fail
              (try simp only [List.append])
              go_quiet (fail)
              have hv_ : Below wr.heap.size wr (wr.drewN nq) := below_drewN (Below.refl _ _) _
              generalize wr.drewN nq = x3 at hv_ ⊢
              have hb3 := bel_step hb hv_
              clear hv_ d1 d2 c0 c1 c2 c3 f0 f1 f2 f3 HBr
              go_wp2
              go_roundw
              case rel => exact ⟨b + 1, by go_num, ⟨by omega, by omega⟩, hI2, hb3⟩
              case measure => simp [intOf]; omega
            ·have e2b : ((b : Int) == (re : Int)) = false := beq_eq_false_iff_ne.2 (by omega)
             cases t
             ·skip
              have hI2 := hid (fun (x : Nat) (h1 : r ≤ x) (h2 : x < b + 1) => (show oP x a = (x == r || x == re) from by
               by_cases e : x = b
               ·rw [e, ht]; simp; try omega
               ·exact hI.out x h1 (by omega)))
              clear ht hI
              (try clear e1)
              (try clear e2)
              go_upto_region 20 with fail
              (try simp only [List.append])
              go_quiet (fail)
              have hv_ : Below wr.heap.size wr (wr.drewN nq) := below_drewN (Below.refl _ _) _
              generalize wr.drewN nq = x3 at hv_ ⊢
              have hb3 := bel_step hb hv_
              clear hv_ d1 d2 c0 c1 c2 c3 f0 f1 f2 f3 HBr
              go_wp2
              go_roundw
              case rel => exact ⟨b + 1, by go_num, ⟨by omega, by omega⟩, hI2, hb3⟩
              case measure => simp [intOf]; omega
             ·skip
              have hqn := hg2.out a b ha1 hae hb1 hbe (by rw [ht]; simp; try omega)
              clear hA hI ht
              (try clear e1)
              (try clear e2)
              go_upto_region 20 with fail
              (try simp only [List.append])
              go_quiet (fail)
              have hv_ : Below wr.heap.size wr (wr.drewN nq) := below_drewN (Below.refl _ _) _
              generalize wr.drewN nq = x3 at hv_ ⊢
              have hb3 := bel_step hb hv_
              clear hv_ d1 d2 c0 c1 c2 c3 f0 f1 f2 f3 HBr
              -- the cell is no rectangle
              obtain rfl := hqn
              obtain ⟨⟨-, ⟨rr1, zz1⟩, HBx⟩, hrx8, -⟩ := hKq.out x3 hb3
              have m0 : x3.cell? ⟨gc, 0, none⟩ = some (.int .i64 r) := hrx8 0 _ rfl
              have m1 : x3.cell? ⟨gc, 1, none⟩ = some (.int .i64 c) := hrx8 1 _ rfl
              have m2 : x3.cell? ⟨gc, 2, none⟩ = some (.int .i64 ro) := hrx8 2 _ rfl
              have m3 : x3.cell? ⟨gc, 3, none⟩ = some (.int .i64 co) := hrx8 3 _ rfl
              have m4 : x3.cell? ⟨gc, 4, none⟩ = some (.int .i64 0) := hrx8 4 _ rfl
              have m5 : x3.cell? ⟨gc, 5, none⟩ = some (.int .i64 0) := hrx8 5 _ rfl
              have m6 : x3.cell? ⟨gc, 6, none⟩ = some (.int .i64 0) := hrx8 6 _ rfl
              have m7 : x3.cell? ⟨gc, 7, none⟩ = some (.int .i64 0) := hrx8 7 _ rfl
              have k0 : x3.cell? ⟨g1, 0, none⟩ = some (.int .i64 0) := rr1 0 _ rfl
              have k1 : x3.cell? ⟨g1, 1, none⟩ = some (.int .i64 0) := rr1 1 _ rfl
              have k2 : x3.cell? ⟨g1, 2, none⟩ = some (.int .i64 0) := rr1 2 _ rfl
              have k3 : x3.cell? ⟨g1, 3, none⟩ = some (.int .i64 0) := rr1 3 _ rfl
              have k4 : x3.cell? ⟨g1, 4, none⟩ = some (.int .i64 0) := rr1 4 _ rfl
              have k5 : x3.cell? ⟨g1, 5, none⟩ = some (.int .i64 0) := rr1 5 _ rfl
              have k6 : x3.cell? ⟨g1, 6, none⟩ = some (.int .i64 0) := rr1 6 _ rfl
              have k7 : x3.cell? ⟨g1, 7, none⟩ = some (.int .i64 0) := rr1 7 _ rfl
              have fk := zz1.fr
              have ltk := cell_lt k0
              have hg1w : w.heap.size ≤ g1 := by omega
              have HBf := hid (below_set (below_set (below_set (below_set (below_set (below_set (below_set (below_set HBx hg1w 0 (.int .i64 r)) hg1w 1 (.int .i64 c)) hg1w 2 (.int .i64 ro)) hg1w 3 (.int .i64 co)) hg1w 4 (.int .i64 0)) hg1w 5 (.int .i64 0)) hg1w 6 (.int .i64 0)) hg1w 7 (.int .i64 0))
              clear hKq hb3 rr1 zz1 HBx hrx8 hg1 hg2 hg3 hbox hHv hVv hOv hSv hHb hVb
              go_wp2
              refine bodyPost_ret (v := .tuple #[.agg #[.int .i64 r, .int .i64 c, .int .i64 ro, .int .i64 co, .int .i64 0, .int .i64 0, .int .i64 0, .int .i64 0], .bool false]) ?_ rfl ?_
              ·simp [results, Tryz.results42, go_sem, k0, k1, k2, k3, k4, k5, k6, k7]
              ·exact hcond.out _ ⟨r, c, ro, co, ⟨0, 0, 0, 0⟩⟩ (fun p h => by cases h) HBf.out
          ·obtain rfl : b = re + 1 := by omega
           have hbei : ¬ (((re + 1 : Nat) : Int) ≤ (re : Int)) := by omega
           have hA2 := hid (fun (y k : Nat) (h1 : c ≤ y) (h2 : y < a + 1) (h3 : r ≤ k) (h4 : k ≤ re) => (show oP k y = (k == r || k == re) from by
            by_cases e : y = a
            ·rw [e]; exact hI.out k h3 (by omega)
            ·exact hA.out y k h1 (by omega) h3 h4))
           clear hA hI
           go_wp2
           go_roundw
           case rel => exact ⟨a + 1, by go_num, ⟨by omega, by omega⟩, hA2, hb⟩
           case measure => simp [intOf]; omega
        ·obtain rfl : ce = a := by omega
         have haei : ¬ (ce : Int) < (ce : Int) := by omega
         go_wp2
         clear c0 c1 c2 c3 f0 f1 f2 f3 HBr
         obtain rfl := hg3.out hA1.out hA.out
         clear hA1 hA hg1 hg2 hg3 hSv hOv
         obtain ⟨w4, hw4⟩ : ∃ x, x = wr := ⟨_, rfl⟩
         subst hw4
         obtain ⟨⟨⟨⟨c0, c1⟩, c2, c3⟩, -, HBr⟩, hr8, -⟩ := hKq.out w4 hb
         have f0 : w4.cell? ⟨gc, 0, none⟩ = some (.int .i64 r) := hr8 0 _ rfl
         have f1 : w4.cell? ⟨gc, 1, none⟩ = some (.int .i64 c) := hr8 1 _ rfl
         have f2 : w4.cell? ⟨gc, 2, none⟩ = some (.int .i64 ro) := hr8 2 _ rfl
         have f3 : w4.cell? ⟨gc, 3, none⟩ = some (.int .i64 co) := hr8 3 _ rfl
         clear hr8
         have hcn : c < cols + 1 := by omega
         have hcni : (c : Int) < (cols : Int) + 1 := by omega
         have hce9 : ce < cols + 1 := by omega
         have hce9i : (ce : Int) < (cols : Int) + 1 := by omega
         obtain ⟨p0, p1⟩ := hVv.out c hcn w4 HBr
         obtain ⟨p2, p3⟩ := hVv.out ce hce9 w4 HBr
         obtain ⟨⟨l0, l1⟩, l2, l3⟩ := hVb.out c hcn
         obtain ⟨⟨l4, l5⟩, l6, l7⟩ := hVb.out ce hce9
         obtain ⟨va, hva⟩ : ∃ x, (V.getD c (0, 0)).1 = x := ⟨_, rfl⟩
         obtain ⟨vb, hvb⟩ : ∃ x, (V.getD c (0, 0)).2 = x := ⟨_, rfl⟩
         obtain ⟨vc, hvc⟩ : ∃ x, (V.getD ce (0, 0)).1 = x := ⟨_, rfl⟩
         obtain ⟨vd, hvd⟩ : ∃ x, (V.getD ce (0, 0)).2 = x := ⟨_, rfl⟩
         rw [hva] at p0 l0 l1
         rw [hvb] at p1 l2 l3
         rw [hvc] at p2 l4 l5
         rw [hvd] at p3 l6 l7
         go_upto_region 22 with fail
         go_cut [13, 14] (fun s13 s14 wx => ∃ ga gb, s13 = .pointer (some ⟨ga, 0, none⟩) ∧ s14 = .pointer (some ⟨gb, 0, none⟩) ∧ wx.rangeAt ga 0 [.int .i64 va, .int .i64 vb] ∧ wx.rangeAt gb 0 [.int .i64 vc, .int .i64 vd] ∧ Below w4.heap.size w4 wx)
         case first =>
          refine Ords.start (x := 16) (S := fun w' => ((w'.cell? ⟨w.heap.size, 1, none⟩ = some (.slice (some ⟨bv_, ov, none⟩) (cols + 1) cV) ∧ w'.cell? ⟨gc, 3, none⟩ = some (.int .i64 co)) ∧ w'.cell? ⟨bv_, ov + c * 2, none⟩ = some (.int .i64 va) ∧ w'.cell? ⟨bv_, ov + c * 2 + 1, none⟩ = some (.int .i64 vb)) ∧ w'.cell? ⟨bv_, ov + ce * 2, none⟩ = some (.int .i64 vc) ∧ w'.cell? ⟨bv_, ov + ce * 2 + 1, none⟩ = some (.int .i64 vd)) (by kernel_rfl) ⟨⟨⟨c1, f3⟩, p0, p1⟩, p2, p3⟩ (fun hHeld => ?_)
          refine' Ords.take (i := 0) ?_ ?_ ?_ ?_ ?_ ?_ ?_ ?_ ?_
          rotate_left 2
          ·(simp only [List.getElem?_toArray, List.getElem?_cons_succ, List.getElem?_cons_zero]; rfl)
          ·kernel_rfl
          ·kernel_rfl
          ·kernel_rfl
          ·kernel_rfl
          ·exact fun _ _ _ h => h
          ·(refine Or.inl ⟨by rfl, ?_⟩; intro w_ hSw_; (try dsimp only at hSw_); go_simp; (try with_reducible rfl))
          ·assumption
          (try simp only [Act.put, Lp0, Lp1, Lp2])
          refine' Ords.take (i := 1) ?_ ?_ ?_ ?_ ?_ ?_ ?_ ?_ ?_
          rotate_left 2
          ·(simp only [List.getElem?_toArray, List.getElem?_cons_succ, List.getElem?_cons_zero]; rfl)
          ·kernel_rfl
          ·kernel_rfl
          ·kernel_rfl
          ·kernel_rfl
          ·exact fun _ _ _ h => h
          ·(refine Or.inl ⟨by rfl, ?_⟩; intro w_ hSw_; (try dsimp only at hSw_); go_simp; (try with_reducible rfl))
          ·assumption
          (try simp only [Act.put, Lp0, Lp1, Lp2])
          refine' Ords.take (i := 2) ?_ ?_ ?_ ?_ ?_ ?_ ?_ ?_ ?_
          rotate_left 2
          ·(simp only [List.getElem?_toArray, List.getElem?_cons_succ, List.getElem?_cons_zero]; rfl)
          ·kernel_rfl
          ·kernel_rfl
          ·kernel_rfl
          ·kernel_rfl
          ·exact fun _ _ _ h => h
          ·(refine Or.inl ⟨by rfl, ?_⟩; intro w_ hSw_; (try dsimp only at hSw_); go_simp; (try with_reducible rfl))
          ·assumption
          (try simp only [Act.put, Lp0, Lp1, Lp2])
          refine' Ords.take (i := 3) ?_ ?_ ?_ ?_ ?_ ?_ ?_ ?_ ?_
          rotate_left 2
          ·(simp only [List.getElem?_toArray, List.getElem?_cons_succ, List.getElem?_cons_zero]; rfl)
          ·kernel_rfl
          ·kernel_rfl
          ·kernel_rfl
          ·kernel_rfl
          ·exact fun _ _ _ h => h
          ·(refine Or.inl ⟨by rfl, ?_⟩; intro w_ hSw_; (try dsimp only at hSw_); go_simp; (try with_reducible rfl))
          ·assumption
          (try simp only [Act.put, Lp0, Lp1, Lp2])
          refine' Ords.take (i := 4) ?_ ?_ ?_ ?_ ?_ ?_ ?_ ?_ ?_
          rotate_left 2
          ·(simp only [List.getElem?_toArray, List.getElem?_cons_succ, List.getElem?_cons_zero]; rfl)
          ·kernel_rfl
          ·kernel_rfl
          ·kernel_rfl
          ·kernel_rfl
          ·exact fun _ _ _ h => h
          ·(refine Or.inl ⟨by rfl, ?_⟩; intro w_ hSw_; (try dsimp only at hSw_); go_simp; (try with_reducible rfl))
          ·assumption
          (try simp only [Act.put, Lp0, Lp1, Lp2])
          refine' Ords.take (i := 5) ?_ ?_ ?_ ?_ ?_ ?_ ?_ ?_ ?_
          rotate_left 2
          ·(simp only [List.getElem?_toArray, List.getElem?_cons_succ, List.getElem?_cons_zero]; rfl)
          ·kernel_rfl
          ·kernel_rfl
          ·kernel_rfl
          ·kernel_rfl
          ·exact fun _ _ _ h => h
          ·(refine Or.inl ⟨by rfl, ?_⟩; intro w_ hSw_; (try dsimp only at hSw_); go_simp; (try with_reducible rfl))
          ·assumption
          (try simp only [Act.put, Lp0, Lp1, Lp2])
          refine' Ords.take (i := 6) ?_ ?_ ?_ ?_ ?_ ?_ ?_ ?_ ?_
          rotate_left 2
          ·(simp only [List.getElem?_toArray, List.getElem?_cons_succ, List.getElem?_cons_zero]; rfl)
          ·kernel_rfl
          ·kernel_rfl
          ·kernel_rfl
          ·kernel_rfl
          ·exact fun _ _ _ h => h
          ·(refine Or.inl ⟨by rfl, ?_⟩; intro w_ hSw_; (try dsimp only at hSw_); go_simp; (try with_reducible rfl))
          ·assumption
          (try simp only [Act.put, Lp0, Lp1, Lp2])
          refine' Ords.take (i := 7) ?_ ?_ ?_ ?_ ?_ ?_ ?_ ?_ ?_
          rotate_left 2
          ·(simp only [List.getElem?_toArray, List.getElem?_cons_succ, List.getElem?_cons_zero]; rfl)
          ·kernel_rfl
          ·kernel_rfl
          ·kernel_rfl
          ·kernel_rfl
          ·exact fun _ _ _ h => h
          ·(refine Or.inl ⟨by rfl, ?_⟩; intro w_ hSw_; (try dsimp only at hSw_); go_simp; (try with_reducible rfl))
          ·assumption
          (try simp only [Act.put, Lp0, Lp1, Lp2])
          refine' Ords.take (i := 8) ?_ ?_ ?_ ?_ ?_ ?_ ?_ ?_ ?_
          rotate_left 2
          ·(simp only [List.getElem?_toArray, List.getElem?_cons_succ, List.getElem?_cons_zero]; rfl)
          ·kernel_rfl
          ·kernel_rfl
          ·kernel_rfl
          ·kernel_rfl
          ·exact fun _ _ _ h => h
          ·(refine Or.inl ⟨by rfl, ?_⟩; intro w_ hSw_; (try dsimp only at hSw_); go_simp; (try with_reducible rfl))
          ·assumption
          (try simp only [Act.put, Lp0, Lp1, Lp2])
          refine' Ords.take (i := 9) ?_ ?_ ?_ ?_ ?_ ?_ ?_ ?_ ?_
          rotate_left 2
          ·(simp only [List.getElem?_toArray, List.getElem?_cons_succ, List.getElem?_cons_zero]; rfl)
          ·kernel_rfl
          ·kernel_rfl
          ·kernel_rfl
          ·kernel_rfl
          ·exact fun _ _ _ h => h
          ·(refine Or.inl ⟨by rfl, ?_⟩; intro w_ hSw_; (try dsimp only at hSw_); go_simp; (try with_reducible rfl))
          ·assumption
          (try simp only [Act.put, Lp0, Lp1, Lp2])
          refine' Ords.take (i := 10) ?_ ?_ ?_ ?_ ?_ ?_ ?_ ?_ ?_
          rotate_left 2
          ·(simp only [List.getElem?_toArray, List.getElem?_cons_succ, List.getElem?_cons_zero]; rfl)
          ·kernel_rfl
          ·kernel_rfl
          ·kernel_rfl
          ·kernel_rfl
          ·exact fun _ _ _ h => h
          ·(refine Or.inl ⟨by rfl, ?_⟩; intro w_ hSw_; (try dsimp only at hSw_); go_simp; (try with_reducible rfl))
          ·assumption
          (try simp only [Act.put, Lp0, Lp1, Lp2])
          refine' Ords.take (i := 11) ?_ ?_ ?_ ?_ ?_ ?_ ?_ ?_ ?_
          rotate_left 2
          ·(simp only [List.getElem?_toArray, List.getElem?_cons_succ, List.getElem?_cons_zero]; rfl)
          ·kernel_rfl
          ·kernel_rfl
          ·kernel_rfl
          ·kernel_rfl
          ·exact fun _ _ _ h => h
          ·(refine Or.inl ⟨by rfl, ?_⟩; intro w_ hSw_; (try dsimp only at hSw_); go_simp; (try with_reducible rfl))
          ·assumption
          (try simp only [Act.put, Lp0, Lp1, Lp2])
          refine' Ords.take (i := 12) ?_ ?_ ?_ ?_ ?_ ?_ ?_ ?_ ?_
          rotate_left 2
          ·(simp only [List.getElem?_toArray, List.getElem?_cons_succ, List.getElem?_cons_zero]; rfl)
          ·kernel_rfl
          ·kernel_rfl
          ·kernel_rfl
          ·kernel_rfl
          ·exact fun _ _ _ h => h
          ·(refine Or.inl ⟨by rfl, ?_⟩; intro w_ hSw_; (try dsimp only at hSw_); go_simp; (try with_reducible rfl))
          ·assumption
          (try simp only [Act.put, Lp0, Lp1, Lp2])
          have hdb : Below w4.heap.size w4 w4.drew := (Below.refl _ _).drew
          generalize w4.drew = xd at hdb hHeld ⊢
          have lt1 := cell_lt hHeld.1.1.1
          have lt2 := cell_lt hHeld.1.1.2
          have lt3 := cell_lt hHeld.2.1
          clear c1 f3 p0 p1 p2 p3
          refine' Ords.fork (i := 13) (j := 14) (by kernel_rfl) (by simp only [List.getElem?_toArray, List.getElem?_cons_succ, List.getElem?_cons_zero]; rfl) (by simp only [List.getElem?_toArray, List.getElem?_cons_succ, List.getElem?_cons_zero]; rfl) (fun K hK => ?_) (fun K hK => ?_)
          ·skip
           go_simp
           (try go_wp2_with fail)
           refine hK.out _ _ ⟨⟨⟨keep_alloc hHeld.1.1.1, keep_alloc hHeld.1.1.2⟩, keep_alloc hHeld.1.2.1, keep_alloc hHeld.1.2.2⟩, keep_alloc hHeld.2.1, keep_alloc hHeld.2.2⟩ (fun hHeld => ?_)
           clear hK K
           (try simp only [Act.put, Lp0, Lp1, Lp2])
           refine' Ords.step (i := 14) (by kernel_rfl) (by simp only [List.getElem?_toArray, List.getElem?_cons_succ, List.getElem?_cons_zero]; rfl) (fun K hK => ?_)
           go_simp
           skip
           (try go_wp2_with fail)
           refine hK.out _ _ ?_ (fun hHeld => ?_)
           ·exact ⟨⟨⟨keep_alloc hHeld.1.1.1, keep_alloc hHeld.1.1.2⟩, keep_alloc hHeld.1.2.1, keep_alloc hHeld.1.2.2⟩, keep_alloc hHeld.2.1, keep_alloc hHeld.2.2⟩
           clear hK K
           (try simp only [Act.put, Lp0, Lp1, Lp2])
           obtain ⟨hbx, ⟨rx0, zx0⟩, rx1, zx1⟩ := two_new (w := xd) (t := 45) (a := .int .i64 0) (b := .int .i64 0) (c := .int .i64 0) (d := .int .i64 0)
           obtain ⟨x2, hx2⟩ : ∃ x, (xd.alloc (.cells #[.int .i64 0, .int .i64 0] 45)).alloc (.cells #[.int .i64 0, .int .i64 0] 45) = x := ⟨_, rfl⟩
           rw [hx2] at hbx rx0 zx0 rx1 zx1 hHeld ⊢
           obtain ⟨y0, hy0⟩ : ∃ x, xd.heap.size = x := ⟨_, rfl⟩
           obtain ⟨y1, hy1⟩ : ∃ x, xd.heap.size + 1 = x := ⟨_, rfl⟩
           rw [hy1] at rx1 zx1
           rw [hy0] at rx0 zx0 lt1 lt2 lt3
           (try rw [hy1])
           (try rw [hy0])
           have hyne : y0 ≠ y1 := by omega
           have hyl : y0 < y1 := by omega
           have t0 := rx0 0 _ rfl
           have t1 := rx0 1 _ rfl
           have t2 := rx1 0 _ rfl
           have t3 := rx1 1 _ rfl
           simp only [Nat.zero_add] at t0 t1 t2 t3
           have z0 := zx0.fr
           have z1 := zx1.fr
           have z2 := zx0.lt
           have z3 := zx1.lt
           refine' Ords.step (i := 15) (by kernel_rfl) (by simp only [List.getElem?_toArray, List.getElem?_cons_succ, List.getElem?_cons_zero]; rfl) (fun K hK => ?_)
           go_simp
           skip
           (try go_wp2_with fail)
           refine hK.out _ _ ?_ (fun hHeld => ?_)
           ·exact ⟨⟨⟨keep_set (show y0 ≠ _ by omega) (keep_set (show y0 ≠ _ by omega) hHeld.1.1.1), keep_set (show y0 ≠ _ by omega) (keep_set (show y0 ≠ _ by omega) hHeld.1.1.2)⟩, keep_set (show y0 ≠ _ by omega) (keep_set (show y0 ≠ _ by omega) hHeld.1.2.1), keep_set (show y0 ≠ _ by omega) (keep_set (show y0 ≠ _ by omega) hHeld.1.2.2)⟩, keep_set (show y0 ≠ _ by omega) (keep_set (show y0 ≠ _ by omega) hHeld.2.1), keep_set (show y0 ≠ _ by omega) (keep_set (show y0 ≠ _ by omega) hHeld.2.2)⟩
           clear hK K
           (try simp only [Act.put, Lp0, Lp1, Lp2])
           refine' Ords.last (by kernel_rfl) (by simp only [List.getElem?_toArray, List.getElem?_cons_succ, List.getElem?_cons_zero]; rfl) (by kernel_rfl) (fun K hK => ?_)
           go_simp
           (try go_wp2_with fail)
           refine hK.out _ _ ?_
           clear hK K
           (try simp only [Act.put, Lp0, Lp1, Lp2])
           have hgne : y1 ≠ y0 := by omega
           have hst := two_set (p := .int .i64 va) (q := .int .i64 vb) (r := .int .i64 vc) (s := .int .i64 vd) hgne rx0 rx1
           have hzd := hdb.size
           have hyW : w4.heap.size ≤ y0 := by omega
           have hyV : w4.heap.size ≤ y1 := by omega
           have hfin := hid (And.intro hst.1 (And.intro hst.2 (below_set (below_set (below_set (below_set (bel_step hdb hbx) (show w4.heap.size ≤ y0 by assumption) 0 (.int .i64 va)) (show w4.heap.size ≤ y0 by assumption) 1 (.int .i64 vb)) (show w4.heap.size ≤ y1 by assumption) 0 (.int .i64 vc)) (show w4.heap.size ≤ y1 by assumption) 1 (.int .i64 vd))))
           clear hst rx0 rx1 zx0 zx1 t0 t1 t2 t3 hdb hbx
           go_wp2_with fail
           go_meet
           go_light
           exact ⟨_, _, rfl, rfl, hfin.out⟩
          ·skip
           go_simp
           (try go_wp2_with fail)
           refine hK.out _ _ ⟨⟨⟨keep_alloc hHeld.1.1.1, keep_alloc hHeld.1.1.2⟩, keep_alloc hHeld.1.2.1, keep_alloc hHeld.1.2.2⟩, keep_alloc hHeld.2.1, keep_alloc hHeld.2.2⟩ (fun hHeld => ?_)
           clear hK K
           (try simp only [Act.put, Lp0, Lp1, Lp2])
           refine' Ords.step (i := 13) (by kernel_rfl) (by simp only [List.getElem?_toArray, List.getElem?_cons_succ, List.getElem?_cons_zero]; rfl) (fun K hK => ?_)
           go_simp
           skip
           (try go_wp2_with fail)
           refine hK.out _ _ ?_ (fun hHeld => ?_)
           ·exact ⟨⟨⟨keep_alloc hHeld.1.1.1, keep_alloc hHeld.1.1.2⟩, keep_alloc hHeld.1.2.1, keep_alloc hHeld.1.2.2⟩, keep_alloc hHeld.2.1, keep_alloc hHeld.2.2⟩
           clear hK K
           (try simp only [Act.put, Lp0, Lp1, Lp2])
           obtain ⟨hbx, ⟨rx0, zx0⟩, rx1, zx1⟩ := two_new (w := xd) (t := 45) (a := .int .i64 0) (b := .int .i64 0) (c := .int .i64 0) (d := .int .i64 0)
           obtain ⟨x2, hx2⟩ : ∃ x, (xd.alloc (.cells #[.int .i64 0, .int .i64 0] 45)).alloc (.cells #[.int .i64 0, .int .i64 0] 45) = x := ⟨_, rfl⟩
           rw [hx2] at hbx rx0 zx0 rx1 zx1 hHeld ⊢
           obtain ⟨y0, hy0⟩ : ∃ x, xd.heap.size = x := ⟨_, rfl⟩
           obtain ⟨y1, hy1⟩ : ∃ x, xd.heap.size + 1 = x := ⟨_, rfl⟩
           rw [hy1] at rx1 zx1
           rw [hy0] at rx0 zx0 lt1 lt2 lt3
           (try rw [hy1])
           (try rw [hy0])
           have hyne : y0 ≠ y1 := by omega
           have hyl : y0 < y1 := by omega
           have t0 := rx0 0 _ rfl
           have t1 := rx0 1 _ rfl
           have t2 := rx1 0 _ rfl
           have t3 := rx1 1 _ rfl
           simp only [Nat.zero_add] at t0 t1 t2 t3
           have z0 := zx0.fr
           have z1 := zx1.fr
           have z2 := zx0.lt
           have z3 := zx1.lt
           refine' Ords.step (i := 15) (by kernel_rfl) (by simp only [List.getElem?_toArray, List.getElem?_cons_succ, List.getElem?_cons_zero]; rfl) (fun K hK => ?_)
           go_simp
           skip
           (try go_wp2_with fail)
           refine hK.out _ _ ?_ (fun hHeld => ?_)
           ·exact ⟨⟨⟨keep_set (show y1 ≠ _ by omega) (keep_set (show y1 ≠ _ by omega) hHeld.1.1.1), keep_set (show y1 ≠ _ by omega) (keep_set (show y1 ≠ _ by omega) hHeld.1.1.2)⟩, keep_set (show y1 ≠ _ by omega) (keep_set (show y1 ≠ _ by omega) hHeld.1.2.1), keep_set (show y1 ≠ _ by omega) (keep_set (show y1 ≠ _ by omega) hHeld.1.2.2)⟩, keep_set (show y1 ≠ _ by omega) (keep_set (show y1 ≠ _ by omega) hHeld.2.1), keep_set (show y1 ≠ _ by omega) (keep_set (show y1 ≠ _ by omega) hHeld.2.2)⟩
           clear hK K
           (try simp only [Act.put, Lp0, Lp1, Lp2])
           refine' Ords.last (by kernel_rfl) (by simp only [List.getElem?_toArray, List.getElem?_cons_succ, List.getElem?_cons_zero]; rfl) (by kernel_rfl) (fun K hK => ?_)
           go_simp
           (try go_wp2_with fail)
           refine hK.out _ _ ?_
           clear hK K
           (try simp only [Act.put, Lp0, Lp1, Lp2])
           have hgne : y0 ≠ y1 := by omega
           have hst := two_set (p := .int .i64 va) (q := .int .i64 vb) (r := .int .i64 vc) (s := .int .i64 vd) hgne rx1 rx0
           have hzd := hdb.size
           have hyW : w4.heap.size ≤ y0 := by omega
           have hyV : w4.heap.size ≤ y1 := by omega
           have hfin := hid (And.intro hst.1 (And.intro hst.2 (below_set (below_set (below_set (below_set (bel_step hdb hbx) (show w4.heap.size ≤ y1 by assumption) 0 (.int .i64 va)) (show w4.heap.size ≤ y1 by assumption) 1 (.int .i64 vb)) (show w4.heap.size ≤ y0 by assumption) 0 (.int .i64 vc)) (show w4.heap.size ≤ y0 by assumption) 1 (.int .i64 vd))))
           clear hst rx0 rx1 zx0 zx1 t0 t1 t2 t3 hdb hbx
           go_wp2_with fail
           go_meet
           go_light
           exact ⟨_, _, rfl, rfl, hfin.out⟩
         case rest =>
          obtain ⟨a1, b1, rfl, rfl, ra1, rb1, hbc⟩ := hcut
          replace hva := hid hva
          replace hvb := hid hvb
          replace hvc := hid hvc
          clear c0 c1 c2 c3 f0 f1 f2 f3 p0 p1 p2 p3 hcn hcni hce9 hce9i HBr hVv hVb
          obtain ⟨w5, hw5⟩ : ∃ x, x = wc := ⟨_, rfl⟩
          subst hw5
          replace hb := bel_step hb hbc
          clear hbc
          obtain ⟨⟨⟨⟨c0, c1⟩, c2, c3⟩, -, HBr⟩, hr8, -⟩ := hKq.out w5 hb
          have f0 : w5.cell? ⟨gc, 0, none⟩ = some (.int .i64 r) := hr8 0 _ rfl
          have f1 : w5.cell? ⟨gc, 1, none⟩ = some (.int .i64 c) := hr8 1 _ rfl
          have f2 : w5.cell? ⟨gc, 2, none⟩ = some (.int .i64 ro) := hr8 2 _ rfl
          have f3 : w5.cell? ⟨gc, 3, none⟩ = some (.int .i64 co) := hr8 3 _ rfl
          clear hr8
          have hcn : r < rows + 1 := by omega
          have hcni : (r : Int) < (rows : Int) + 1 := by omega
          have hce9 : re < rows + 1 := by omega
          have hce9i : (re : Int) < (rows : Int) + 1 := by omega
          obtain ⟨p0, p1⟩ := hHv.out r hcn w5 HBr
          obtain ⟨p2, p3⟩ := hHv.out re hce9 w5 HBr
          obtain ⟨⟨n0, n1⟩, n2, n3⟩ := hHb.out r hcn
          obtain ⟨⟨n4, n5⟩, n6, n7⟩ := hHb.out re hce9
          obtain ⟨ua, hua⟩ : ∃ x, (H.getD r (0, 0)).1 = x := ⟨_, rfl⟩
          obtain ⟨ub, hub⟩ : ∃ x, (H.getD r (0, 0)).2 = x := ⟨_, rfl⟩
          obtain ⟨uc, huc⟩ : ∃ x, (H.getD re (0, 0)).1 = x := ⟨_, rfl⟩
          obtain ⟨ud, hud⟩ : ∃ x, (H.getD re (0, 0)).2 = x := ⟨_, rfl⟩
          rw [hua] at p0 n0 n1
          rw [hub] at p1 n2 n3
          rw [huc] at p2 n4 n5
          rw [hud] at p3 n6 n7
          go_upto_region 23 with fail
          go_cut [15, 16] (fun s13 s14 wx => ∃ ga gb, s13 = .pointer (some ⟨ga, 0, none⟩) ∧ s14 = .pointer (some ⟨gb, 0, none⟩) ∧ wx.rangeAt ga 0 [.int .i64 ua, .int .i64 ub] ∧ wx.rangeAt gb 0 [.int .i64 uc, .int .i64 ud] ∧ Below w5.heap.size w5 wx)
          case first =>
           refine Ords.start (x := 16) (S := fun w' => ((w'.cell? ⟨w.heap.size, 0, none⟩ = some (.slice (some ⟨bh, oh, none⟩) (rows + 1) cH) ∧ w'.cell? ⟨gc, 2, none⟩ = some (.int .i64 ro)) ∧ w'.cell? ⟨bh, oh + r * 2, none⟩ = some (.int .i64 ua) ∧ w'.cell? ⟨bh, oh + r * 2 + 1, none⟩ = some (.int .i64 ub)) ∧ w'.cell? ⟨bh, oh + re * 2, none⟩ = some (.int .i64 uc) ∧ w'.cell? ⟨bh, oh + re * 2 + 1, none⟩ = some (.int .i64 ud)) (by kernel_rfl) ⟨⟨⟨c0, f2⟩, p0, p1⟩, p2, p3⟩ (fun hHeld => ?_)
           refine' Ords.take (i := 0) ?_ ?_ ?_ ?_ ?_ ?_ ?_ ?_ ?_
           rotate_left 2
           ·(simp only [List.getElem?_toArray, List.getElem?_cons_succ, List.getElem?_cons_zero]; rfl)
           ·kernel_rfl
           ·kernel_rfl
           ·kernel_rfl
           ·kernel_rfl
           ·exact fun _ _ _ h => h
           ·(refine Or.inl ⟨by rfl, ?_⟩; intro w_ hSw_; (try dsimp only at hSw_); go_simp; (try with_reducible rfl))
           ·assumption
           (try simp only [Act.put, Lp0, Lp1, Lp2])
           refine' Ords.take (i := 1) ?_ ?_ ?_ ?_ ?_ ?_ ?_ ?_ ?_
           rotate_left 2
           ·(simp only [List.getElem?_toArray, List.getElem?_cons_succ, List.getElem?_cons_zero]; rfl)
           ·kernel_rfl
           ·kernel_rfl
           ·kernel_rfl
           ·kernel_rfl
           ·exact fun _ _ _ h => h
           ·(refine Or.inl ⟨by rfl, ?_⟩; intro w_ hSw_; (try dsimp only at hSw_); go_simp; (try with_reducible rfl))
           ·assumption
           (try simp only [Act.put, Lp0, Lp1, Lp2])
           refine' Ords.take (i := 2) ?_ ?_ ?_ ?_ ?_ ?_ ?_ ?_ ?_
           rotate_left 2
           ·(simp only [List.getElem?_toArray, List.getElem?_cons_succ, List.getElem?_cons_zero]; rfl)
           ·kernel_rfl
           ·kernel_rfl
           ·kernel_rfl
           ·kernel_rfl
           ·exact fun _ _ _ h => h
           ·(refine Or.inl ⟨by rfl, ?_⟩; intro w_ hSw_; (try dsimp only at hSw_); go_simp; (try with_reducible rfl))
           ·assumption
           (try simp only [Act.put, Lp0, Lp1, Lp2])
           refine' Ords.take (i := 3) ?_ ?_ ?_ ?_ ?_ ?_ ?_ ?_ ?_
           rotate_left 2
           ·(simp only [List.getElem?_toArray, List.getElem?_cons_succ, List.getElem?_cons_zero]; rfl)
           ·kernel_rfl
           ·kernel_rfl
           ·kernel_rfl
           ·kernel_rfl
           ·exact fun _ _ _ h => h
           ·(refine Or.inl ⟨by rfl, ?_⟩; intro w_ hSw_; (try dsimp only at hSw_); go_simp; (try with_reducible rfl))
           ·assumption
           (try simp only [Act.put, Lp0, Lp1, Lp2])
           refine' Ords.take (i := 4) ?_ ?_ ?_ ?_ ?_ ?_ ?_ ?_ ?_
           rotate_left 2
           ·(simp only [List.getElem?_toArray, List.getElem?_cons_succ, List.getElem?_cons_zero]; rfl)
           ·kernel_rfl
           ·kernel_rfl
           ·kernel_rfl
           ·kernel_rfl
           ·exact fun _ _ _ h => h
           ·(refine Or.inl ⟨by rfl, ?_⟩; intro w_ hSw_; (try dsimp only at hSw_); go_simp; (try with_reducible rfl))
           ·assumption
           (try simp only [Act.put, Lp0, Lp1, Lp2])
           refine' Ords.take (i := 5) ?_ ?_ ?_ ?_ ?_ ?_ ?_ ?_ ?_
           rotate_left 2
           ·(simp only [List.getElem?_toArray, List.getElem?_cons_succ, List.getElem?_cons_zero]; rfl)
           ·kernel_rfl
           ·kernel_rfl
           ·kernel_rfl
           ·kernel_rfl
           ·exact fun _ _ _ h => h
           ·(refine Or.inl ⟨by rfl, ?_⟩; intro w_ hSw_; (try dsimp only at hSw_); go_simp; (try with_reducible rfl))
           ·assumption
           (try simp only [Act.put, Lp0, Lp1, Lp2])
           refine' Ords.take (i := 6) ?_ ?_ ?_ ?_ ?_ ?_ ?_ ?_ ?_
           rotate_left 2
           ·(simp only [List.getElem?_toArray, List.getElem?_cons_succ, List.getElem?_cons_zero]; rfl)
           ·kernel_rfl
           ·kernel_rfl
           ·kernel_rfl
           ·kernel_rfl
           ·exact fun _ _ _ h => h
           ·(refine Or.inl ⟨by rfl, ?_⟩; intro w_ hSw_; (try dsimp only at hSw_); go_simp; (try with_reducible rfl))
           ·assumption
           (try simp only [Act.put, Lp0, Lp1, Lp2])
           refine' Ords.take (i := 7) ?_ ?_ ?_ ?_ ?_ ?_ ?_ ?_ ?_
           rotate_left 2
           ·(simp only [List.getElem?_toArray, List.getElem?_cons_succ, List.getElem?_cons_zero]; rfl)
           ·kernel_rfl
           ·kernel_rfl
           ·kernel_rfl
           ·kernel_rfl
           ·exact fun _ _ _ h => h
           ·(refine Or.inl ⟨by rfl, ?_⟩; intro w_ hSw_; (try dsimp only at hSw_); go_simp; (try with_reducible rfl))
           ·assumption
           (try simp only [Act.put, Lp0, Lp1, Lp2])
           refine' Ords.take (i := 8) ?_ ?_ ?_ ?_ ?_ ?_ ?_ ?_ ?_
           rotate_left 2
           ·(simp only [List.getElem?_toArray, List.getElem?_cons_succ, List.getElem?_cons_zero]; rfl)
           ·kernel_rfl
           ·kernel_rfl
           ·kernel_rfl
           ·kernel_rfl
           ·exact fun _ _ _ h => h
           ·(refine Or.inl ⟨by rfl, ?_⟩; intro w_ hSw_; (try dsimp only at hSw_); go_simp; (try with_reducible rfl))
           ·assumption
           (try simp only [Act.put, Lp0, Lp1, Lp2])
           refine' Ords.take (i := 9) ?_ ?_ ?_ ?_ ?_ ?_ ?_ ?_ ?_
           rotate_left 2
           ·(simp only [List.getElem?_toArray, List.getElem?_cons_succ, List.getElem?_cons_zero]; rfl)
           ·kernel_rfl
           ·kernel_rfl
           ·kernel_rfl
           ·kernel_rfl
           ·exact fun _ _ _ h => h
           ·(refine Or.inl ⟨by rfl, ?_⟩; intro w_ hSw_; (try dsimp only at hSw_); go_simp; (try with_reducible rfl))
           ·assumption
           (try simp only [Act.put, Lp0, Lp1, Lp2])
           refine' Ords.take (i := 10) ?_ ?_ ?_ ?_ ?_ ?_ ?_ ?_ ?_
           rotate_left 2
           ·(simp only [List.getElem?_toArray, List.getElem?_cons_succ, List.getElem?_cons_zero]; rfl)
           ·kernel_rfl
           ·kernel_rfl
           ·kernel_rfl
           ·kernel_rfl
           ·exact fun _ _ _ h => h
           ·(refine Or.inl ⟨by rfl, ?_⟩; intro w_ hSw_; (try dsimp only at hSw_); go_simp; (try with_reducible rfl))
           ·assumption
           (try simp only [Act.put, Lp0, Lp1, Lp2])
           refine' Ords.take (i := 11) ?_ ?_ ?_ ?_ ?_ ?_ ?_ ?_ ?_
           rotate_left 2
           ·(simp only [List.getElem?_toArray, List.getElem?_cons_succ, List.getElem?_cons_zero]; rfl)
           ·kernel_rfl
           ·kernel_rfl
           ·kernel_rfl
           ·kernel_rfl
           ·exact fun _ _ _ h => h
           ·(refine Or.inl ⟨by rfl, ?_⟩; intro w_ hSw_; (try dsimp only at hSw_); go_simp; (try with_reducible rfl))
           ·assumption
           (try simp only [Act.put, Lp0, Lp1, Lp2])
           refine' Ords.take (i := 12) ?_ ?_ ?_ ?_ ?_ ?_ ?_ ?_ ?_
           rotate_left 2
           ·(simp only [List.getElem?_toArray, List.getElem?_cons_succ, List.getElem?_cons_zero]; rfl)
           ·kernel_rfl
           ·kernel_rfl
           ·kernel_rfl
           ·kernel_rfl
           ·exact fun _ _ _ h => h
           ·(refine Or.inl ⟨by rfl, ?_⟩; intro w_ hSw_; (try dsimp only at hSw_); go_simp; (try with_reducible rfl))
           ·assumption
           (try simp only [Act.put, Lp0, Lp1, Lp2])
           have hdb : Below w5.heap.size w5 w5.drew := (Below.refl _ _).drew
           generalize w5.drew = xd at hdb hHeld ⊢
           have lt1 := cell_lt hHeld.1.1.1
           have lt2 := cell_lt hHeld.1.1.2
           have lt3 := cell_lt hHeld.2.1
           clear c0 f2 p0 p1 p2 p3
           refine' Ords.fork (i := 13) (j := 14) (by kernel_rfl) (by simp only [List.getElem?_toArray, List.getElem?_cons_succ, List.getElem?_cons_zero]; rfl) (by simp only [List.getElem?_toArray, List.getElem?_cons_succ, List.getElem?_cons_zero]; rfl) (fun K hK => ?_) (fun K hK => ?_)
           ·skip
            go_simp
            (try go_wp2_with fail)
            refine hK.out _ _ ⟨⟨⟨keep_alloc hHeld.1.1.1, keep_alloc hHeld.1.1.2⟩, keep_alloc hHeld.1.2.1, keep_alloc hHeld.1.2.2⟩, keep_alloc hHeld.2.1, keep_alloc hHeld.2.2⟩ (fun hHeld => ?_)
            clear hK K
            (try simp only [Act.put, Lp0, Lp1, Lp2])
            refine' Ords.step (i := 14) (by kernel_rfl) (by simp only [List.getElem?_toArray, List.getElem?_cons_succ, List.getElem?_cons_zero]; rfl) (fun K hK => ?_)
            go_simp
            skip
            (try go_wp2_with fail)
            refine hK.out _ _ ?_ (fun hHeld => ?_)
            ·exact ⟨⟨⟨keep_alloc hHeld.1.1.1, keep_alloc hHeld.1.1.2⟩, keep_alloc hHeld.1.2.1, keep_alloc hHeld.1.2.2⟩, keep_alloc hHeld.2.1, keep_alloc hHeld.2.2⟩
            clear hK K
            (try simp only [Act.put, Lp0, Lp1, Lp2])
            obtain ⟨hbx, ⟨rx0, zx0⟩, rx1, zx1⟩ := two_new (w := xd) (t := 45) (a := .int .i64 0) (b := .int .i64 0) (c := .int .i64 0) (d := .int .i64 0)
            obtain ⟨x2, hx2⟩ : ∃ x, (xd.alloc (.cells #[.int .i64 0, .int .i64 0] 45)).alloc (.cells #[.int .i64 0, .int .i64 0] 45) = x := ⟨_, rfl⟩
            rw [hx2] at hbx rx0 zx0 rx1 zx1 hHeld ⊢
            obtain ⟨y0, hy0⟩ : ∃ x, xd.heap.size = x := ⟨_, rfl⟩
            obtain ⟨y1, hy1⟩ : ∃ x, xd.heap.size + 1 = x := ⟨_, rfl⟩
            rw [hy1] at rx1 zx1
            rw [hy0] at rx0 zx0 lt1 lt2 lt3
            (try rw [hy1])
            (try rw [hy0])
            have hyne : y0 ≠ y1 := by omega
            have hyl : y0 < y1 := by omega
            have t0 := rx0 0 _ rfl
            have t1 := rx0 1 _ rfl
            have t2 := rx1 0 _ rfl
            have t3 := rx1 1 _ rfl
            simp only [Nat.zero_add] at t0 t1 t2 t3
            have z0 := zx0.fr
            have z1 := zx1.fr
            have z2 := zx0.lt
            have z3 := zx1.lt
            refine' Ords.step (i := 15) (by kernel_rfl) (by simp only [List.getElem?_toArray, List.getElem?_cons_succ, List.getElem?_cons_zero]; rfl) (fun K hK => ?_)
            go_simp
            skip
            (try go_wp2_with fail)
            refine hK.out _ _ ?_ (fun hHeld => ?_)
            ·exact ⟨⟨⟨keep_set (show y0 ≠ _ by omega) (keep_set (show y0 ≠ _ by omega) hHeld.1.1.1), keep_set (show y0 ≠ _ by omega) (keep_set (show y0 ≠ _ by omega) hHeld.1.1.2)⟩, keep_set (show y0 ≠ _ by omega) (keep_set (show y0 ≠ _ by omega) hHeld.1.2.1), keep_set (show y0 ≠ _ by omega) (keep_set (show y0 ≠ _ by omega) hHeld.1.2.2)⟩, keep_set (show y0 ≠ _ by omega) (keep_set (show y0 ≠ _ by omega) hHeld.2.1), keep_set (show y0 ≠ _ by omega) (keep_set (show y0 ≠ _ by omega) hHeld.2.2)⟩
            clear hK K
            (try simp only [Act.put, Lp0, Lp1, Lp2])
            refine' Ords.last (by kernel_rfl) (by simp only [List.getElem?_toArray, List.getElem?_cons_succ, List.getElem?_cons_zero]; rfl) (by kernel_rfl) (fun K hK => ?_)
            go_simp
            (try go_wp2_with fail)
            refine hK.out _ _ ?_
            clear hK K
            (try simp only [Act.put, Lp0, Lp1, Lp2])
            have hgne : y1 ≠ y0 := by omega
            have hst := two_set (p := .int .i64 ua) (q := .int .i64 ub) (r := .int .i64 uc) (s := .int .i64 ud) hgne rx0 rx1
            have hzd := hdb.size
            have hyW : w5.heap.size ≤ y0 := by omega
            have hyV : w5.heap.size ≤ y1 := by omega
            have hfin := hid (And.intro hst.1 (And.intro hst.2 (below_set (below_set (below_set (below_set (bel_step hdb hbx) (show w5.heap.size ≤ y0 by assumption) 0 (.int .i64 ua)) (show w5.heap.size ≤ y0 by assumption) 1 (.int .i64 ub)) (show w5.heap.size ≤ y1 by assumption) 0 (.int .i64 uc)) (show w5.heap.size ≤ y1 by assumption) 1 (.int .i64 ud))))
            clear hst rx0 rx1 zx0 zx1 t0 t1 t2 t3 hdb hbx
            go_wp2_with fail
            go_meet
            go_light
            exact ⟨_, _, rfl, rfl, hfin.out⟩
           ·skip
            go_simp
            (try go_wp2_with fail)
            refine hK.out _ _ ⟨⟨⟨keep_alloc hHeld.1.1.1, keep_alloc hHeld.1.1.2⟩, keep_alloc hHeld.1.2.1, keep_alloc hHeld.1.2.2⟩, keep_alloc hHeld.2.1, keep_alloc hHeld.2.2⟩ (fun hHeld => ?_)
            clear hK K
            (try simp only [Act.put, Lp0, Lp1, Lp2])
            refine' Ords.step (i := 13) (by kernel_rfl) (by simp only [List.getElem?_toArray, List.getElem?_cons_succ, List.getElem?_cons_zero]; rfl) (fun K hK => ?_)
            go_simp
            skip
            (try go_wp2_with fail)
            refine hK.out _ _ ?_ (fun hHeld => ?_)
            ·exact ⟨⟨⟨keep_alloc hHeld.1.1.1, keep_alloc hHeld.1.1.2⟩, keep_alloc hHeld.1.2.1, keep_alloc hHeld.1.2.2⟩, keep_alloc hHeld.2.1, keep_alloc hHeld.2.2⟩
            clear hK K
            (try simp only [Act.put, Lp0, Lp1, Lp2])
            obtain ⟨hbx, ⟨rx0, zx0⟩, rx1, zx1⟩ := two_new (w := xd) (t := 45) (a := .int .i64 0) (b := .int .i64 0) (c := .int .i64 0) (d := .int .i64 0)
            obtain ⟨x2, hx2⟩ : ∃ x, (xd.alloc (.cells #[.int .i64 0, .int .i64 0] 45)).alloc (.cells #[.int .i64 0, .int .i64 0] 45) = x := ⟨_, rfl⟩
            rw [hx2] at hbx rx0 zx0 rx1 zx1 hHeld ⊢
            obtain ⟨y0, hy0⟩ : ∃ x, xd.heap.size = x := ⟨_, rfl⟩
            obtain ⟨y1, hy1⟩ : ∃ x, xd.heap.size + 1 = x := ⟨_, rfl⟩
            rw [hy1] at rx1 zx1
            rw [hy0] at rx0 zx0 lt1 lt2 lt3
            (try rw [hy1])
            (try rw [hy0])
            have hyne : y0 ≠ y1 := by omega
            have hyl : y0 < y1 := by omega
            have t0 := rx0 0 _ rfl
            have t1 := rx0 1 _ rfl
            have t2 := rx1 0 _ rfl
            have t3 := rx1 1 _ rfl
            simp only [Nat.zero_add] at t0 t1 t2 t3
            have z0 := zx0.fr
            have z1 := zx1.fr
            have z2 := zx0.lt
            have z3 := zx1.lt
            refine' Ords.step (i := 15) (by kernel_rfl) (by simp only [List.getElem?_toArray, List.getElem?_cons_succ, List.getElem?_cons_zero]; rfl) (fun K hK => ?_)
            go_simp
            skip
            (try go_wp2_with fail)
            refine hK.out _ _ ?_ (fun hHeld => ?_)
            ·exact ⟨⟨⟨keep_set (show y1 ≠ _ by omega) (keep_set (show y1 ≠ _ by omega) hHeld.1.1.1), keep_set (show y1 ≠ _ by omega) (keep_set (show y1 ≠ _ by omega) hHeld.1.1.2)⟩, keep_set (show y1 ≠ _ by omega) (keep_set (show y1 ≠ _ by omega) hHeld.1.2.1), keep_set (show y1 ≠ _ by omega) (keep_set (show y1 ≠ _ by omega) hHeld.1.2.2)⟩, keep_set (show y1 ≠ _ by omega) (keep_set (show y1 ≠ _ by omega) hHeld.2.1), keep_set (show y1 ≠ _ by omega) (keep_set (show y1 ≠ _ by omega) hHeld.2.2)⟩
            clear hK K
            (try simp only [Act.put, Lp0, Lp1, Lp2])
            refine' Ords.last (by kernel_rfl) (by simp only [List.getElem?_toArray, List.getElem?_cons_succ, List.getElem?_cons_zero]; rfl) (by kernel_rfl) (fun K hK => ?_)
            go_simp
            (try go_wp2_with fail)
            refine hK.out _ _ ?_
            clear hK K
            (try simp only [Act.put, Lp0, Lp1, Lp2])
            have hgne : y0 ≠ y1 := by omega
            have hst := two_set (p := .int .i64 ua) (q := .int .i64 ub) (r := .int .i64 uc) (s := .int .i64 ud) hgne rx1 rx0
            have hzd := hdb.size
            have hyW : w5.heap.size ≤ y0 := by omega
            have hyV : w5.heap.size ≤ y1 := by omega
            have hfin := hid (And.intro hst.1 (And.intro hst.2 (below_set (below_set (below_set (below_set (bel_step hdb hbx) (show w5.heap.size ≤ y1 by assumption) 0 (.int .i64 ua)) (show w5.heap.size ≤ y1 by assumption) 1 (.int .i64 ub)) (show w5.heap.size ≤ y0 by assumption) 0 (.int .i64 uc)) (show w5.heap.size ≤ y0 by assumption) 1 (.int .i64 ud))))
            clear hst rx0 rx1 zx0 zx1 t0 t1 t2 t3 hdb hbx
            go_wp2_with fail
            go_meet
            go_light
            exact ⟨_, _, rfl, rfl, hfin.out⟩
          case rest =>
           obtain ⟨a2, b2, rfl, rfl, ra2, rb2, hbc⟩ := hcut
           replace hua := hid hua
           replace hub := hid hub
           replace huc := hid huc
           replace ra1 := rng_below ra1 hbc
           replace rb1 := rng_below rb1 hbc
           replace hb := bel_step hb hbc
           clear c0 c1 c2 c3 f0 f1 f2 f3 p0 p1 p2 p3 hcn hcni hce9 hce9i HBr hHv hHb hbc
           obtain ⟨⟨-, ⟨rr1, zz1⟩, HBx⟩, hrx8, zc⟩ := hKq.out wc hb
           have a10 := ra1 0 _ rfl
           have a11 := ra1 1 _ rfl
           have b10 := rb1 0 _ rfl
           have a20 := ra2 0 _ rfl
           have a21 := ra2 1 _ rfl
           have b20 := rb2 0 _ rfl
           simp only [Nat.zero_add] at a10 a11 b10 a20 a21 b20
           have m0 : wc.cell? ⟨gc, 0, none⟩ = some (.int .i64 r) := hrx8 0 _ rfl
           have m1 : wc.cell? ⟨gc, 1, none⟩ = some (.int .i64 c) := hrx8 1 _ rfl
           have m2 : wc.cell? ⟨gc, 2, none⟩ = some (.int .i64 ro) := hrx8 2 _ rfl
           have m3 : wc.cell? ⟨gc, 3, none⟩ = some (.int .i64 co) := hrx8 3 _ rfl
           have m4 : wc.cell? ⟨gc, 4, none⟩ = some (.int .i64 0) := hrx8 4 _ rfl
           have m5 : wc.cell? ⟨gc, 5, none⟩ = some (.int .i64 0) := hrx8 5 _ rfl
           have m6 : wc.cell? ⟨gc, 6, none⟩ = some (.int .i64 0) := hrx8 6 _ rfl
           have m7 : wc.cell? ⟨gc, 7, none⟩ = some (.int .i64 0) := hrx8 7 _ rfl
           have k0 : wc.cell? ⟨g1, 0, none⟩ = some (.int .i64 0) := rr1 0 _ rfl
           have k1 : wc.cell? ⟨g1, 1, none⟩ = some (.int .i64 0) := rr1 1 _ rfl
           have k2 : wc.cell? ⟨g1, 2, none⟩ = some (.int .i64 0) := rr1 2 _ rfl
           have k3 : wc.cell? ⟨g1, 3, none⟩ = some (.int .i64 0) := rr1 3 _ rfl
           have k4 : wc.cell? ⟨g1, 4, none⟩ = some (.int .i64 0) := rr1 4 _ rfl
           have k5 : wc.cell? ⟨g1, 5, none⟩ = some (.int .i64 0) := rr1 5 _ rfl
           have k6 : wc.cell? ⟨g1, 6, none⟩ = some (.int .i64 0) := rr1 6 _ rfl
           have k7 : wc.cell? ⟨g1, 7, none⟩ = some (.int .i64 0) := rr1 7 _ rfl
           have fk := zz1.fr
           have fc := zc.fr
           have ltk := cell_lt k0
           have ltc := cell_lt m0
           have hg1w : w.heap.size ≤ g1 := by omega
           have hgne : gc ≠ g1 := by omega
           have s1 : IntKind.i64.wrap (va + vb) = va + vb := by rw [IntKind.wrap_i64]; omega
           have s2 : IntKind.i64.wrap (ua + ub) = ua + ub := by rw [IntKind.wrap_i64]; omega
           have s3 : IntKind.i64.wrap (vc - va) = vc - va := by rw [IntKind.wrap_i64]; omega
           have s4 : IntKind.i64.wrap (vc - va - vb) = vc - va - vb := by rw [IntKind.wrap_i64]; omega
           have s5 : IntKind.i64.wrap (uc - ua) = uc - ua := by rw [IntKind.wrap_i64]; omega
           have s6 : IntKind.i64.wrap (uc - ua - ub) = uc - ua - ub := by rw [IntKind.wrap_i64]; omega
           have hEq := hid (show (⟨r, c, ro, co, ⟨va + vb, ua + ub, vc - va - vb, uc - ua - ub⟩⟩ : Ce) = boxC ⟨H, V, [], []⟩ (ceR r c re ce) from by
            have e1 : re - r = ro := by omega
            have e2 : ce - c = co := by omega
            have e3 : ((c : Int) + (co : Int)).toNat = ce := by omega
            have e4 : ((r : Int) + (ro : Int)).toNat = re := by omega
            unfold ceR
            rw [hbox.out, e1, e2]
            dsimp only
            rw [e3, e4, Int.toNat_natCast, Int.toNat_natCast, hva.out, hvb.out, hvc.out, hua.out, hub.out, huc.out]
            congr 2 <;> omega)
           have HBf := hid (below_set (below_set (below_set (below_set (below_set (below_set (below_set (below_set (below_set (below_set (below_set (below_set HBx hgc0 4 (.int .i64 (va + vb))) hgc0 5 (.int .i64 (ua + ub))) hgc0 6 (.int .i64 (vc - va - vb))) hgc0 7 (.int .i64 (uc - ua - ub))) hg1w 0 (.int .i64 r)) hg1w 1 (.int .i64 c)) hg1w 2 (.int .i64 ro)) hg1w 3 (.int .i64 co)) hg1w 4 (.int .i64 (va + vb))) hg1w 5 (.int .i64 (ua + ub))) hg1w 6 (.int .i64 (vc - va - vb))) hg1w 7 (.int .i64 (uc - ua - ub)))
           clear hKq hb rr1 zz1 HBx hrx8 zc hbox ra1 rb1 ra2 rb2 hva hvb hvc hua hub huc
           go_wp2
           refine bodyPost_ret (v := .tuple #[.agg #[.int .i64 r, .int .i64 c, .int .i64 ro, .int .i64 co, .int .i64 (va + vb), .int .i64 (ua + ub), .int .i64 (vc - va - vb), .int .i64 (uc - ua - ub)], .bool true]) ?_ rfl ?_
           ·simp [results, Tryz.results42, go_sem, k0, k1, k2, k3, k4, k5, k6, k7]
           ·exact hcond.out _ ⟨r, c, ro, co, ⟨va + vb, ua + ub, vc - va - vb, uc - ua - ub⟩⟩ (fun p h => by injection h with h; subst h; exact hEq.out) HBf.out
end Go.Proofs.YtjfgklhifhaaoaaGreat
