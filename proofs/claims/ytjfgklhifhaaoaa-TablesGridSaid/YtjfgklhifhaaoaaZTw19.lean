/- Tables: the frame of lines. Conditions: valid lines, at most 100000. -/
import Derived.Test.YtjfgklhifhaaoaaZTw18
import Derived.Test.YtjfgklhifhaaoaaZPB
set_option linter.unusedVariables false
set_option linter.unusedSimpArgs false
namespace Go.Proofs.Ytjfgklhifhaaoaa
open Go.RowKit
theorem bnd_small {l : List Ru} {v : Bool} (h : ∀ r ∈ l, okR r = true) : BdS (bndE l v) := fun b hb => by
 obtain ⟨r, hr, _, rfl⟩ := bndE_mem.1 hb
 have := okR_iff.1 (h r hr)
 dsimp only
 omega
/-- a frame in memory -/
def FrRd (w : World) (v : Value) (f : Fr) : Prop := ∃ A1 c1 A2 c2 A3 c3 A4 c4, v = .agg #[.slice A1 f.H.length c1, .slice A2 f.V.length c2, .slice A3 f.A.length c3, .slice A4 f.D.length c4] ∧ (BdK.Rd w A1 c1 f.H ∧ BdK.Rd w A2 c2 f.V) ∧ SpK.Rd w A3 c3 f.A ∧ SpK.Rd w A4 c4 f.D
def FrV (v : Value) : Prop := ∃ A1 n1 c1 A2 n2 c2 A3 n3 c3 A4 n4 c4, v = .agg #[.slice A1 n1 c1, .slice A2 n2 c2, .slice A3 n3 c3, .slice A4 n4 c4]
def RetFr (w : World) (o : Option Fr) (e : Ending) (w' : World) : Prop := Below w.heap.size w w' ∧ ∃ v, FrV v ∧ e = .returned (.tuple #[v, .bool o.isSome]) ∧ ∀ f, o = some f → FrRd w' v f
theorem bld_none {l : List Ru} (h : (aptE (bndE l false) && aptE (bndE l true) && spnA l false (bndE l false) (bndE l true) && spnA l true (bndE l true) (bndE l false)) = false) : bldE l = none := by
 unfold bldE
 dsimp only
 rw [if_neg (by rw [h]; simp)]
theorem bld_some {l : List Ru} (h : (aptE (bndE l false) && aptE (bndE l true) && spnA l false (bndE l false) (bndE l true) && spnA l true (bndE l true) (bndE l false)) = true) {S T : List Sp} (hS : S.Perm (spnL l false (bndE l false) (bndE l true))) (hS2 : SrtS S) (hT : T.Perm (spnL l true (bndE l true) (bndE l false))) (hT2 : SrtS T) :
  (ordE S (bndE l false).length (bndE l true).length && ordE T (bndE l true).length (bndE l false).length) = (bldE l).isSome ∧ ∀ f, bldE l = some f → f = ⟨bndE l false, bndE l true, S, T⟩ := by
 have hc := h
 simp only [Bool.and_eq_true] at hc
 obtain ⟨⟨⟨c1, c2⟩, c3⟩, c4⟩ := hc
 have e1 := ord_perm (n := (bndE l false).length) (k := (bndE l true).length) (hS.trans (List.mergeSort_perm _ spnLe).symm) hS2 (srt_merge _) (fun s hs => spn_lt c3 s (hS.mem_iff.1 hs))
 have e2 := ord_perm (n := (bndE l true).length) (k := (bndE l false).length) (hT.trans (List.mergeSort_perm _ spnLe).symm) hT2 (srt_merge _) (fun s hs => spn_lt c4 s (hT.mem_iff.1 hs))
 unfold bldE
 dsimp only
 rw [if_pos h, e1.1, e2.1]
 split
 ·rename_i hd
  simp only [Bool.and_eq_true] at hd
  refine ⟨by rw [hd.1, hd.2]; rfl, fun f hf => ?_⟩
  obtain rfl := Option.some.inj hf
  rw [e1.2 hd.1, e2.2 hd.2]
 ·rename_i hd
  refine ⟨by simpa using hd, fun f hf => by cases hf⟩
theorem Knd.Rd.setS {α : Type} {X : Knd α} {w : World} {A : Option Addr} {c g i : Nat} {l : List α} {x v : Value} (h : X.Rd w A c l) (hp : w.cell? ⟨g, i, none⟩ = some x) (hne : ∀ a, ∀ v ∈ X.enc a, v ≠ x) : X.Rd (w.setCell ⟨g, i, none⟩ v) A c l :=
 ⟨h.cap, h.max, fun h0 => by
  obtain ⟨b, o, e, hb, hc⟩ := h.rd h0
  refine ⟨b, o, e, by simpa using hb, fun j hj k u hu => ?_⟩
  have h1 := hc j hj k u hu
  rw [World.cell?_setCell_other _ _ _ _ (fun e => ?_)]
  ·exact h1
  ·rw [← e, hp] at h1
   exact hne _ u (List.mem_of_getElem? hu) (Option.some.inj h1).symm⟩
theorem bd_ne : ∀ a, ∀ v ∈ BdK.enc a, v ≠ .slice none 0 0 := fun a v hv => by
 simp only [BdK, List.mem_cons, List.not_mem_nil, or_false] at hv
 rcases hv with rfl | rfl <;> simp
theorem sp_ne : ∀ a, ∀ v ∈ SpK.enc a, v ≠ .slice none 0 0 := fun a v hv => by
 simp only [SpK, List.mem_cons, List.not_mem_nil, or_false] at hv
 rcases hv with rfl | rfl | rfl <;> simp
def fr0 : List Value := [.slice none 0 0, .slice none 0 0, .slice none 0 0, .slice none 0 0]
set_option maxRecDepth 100000 in
set_option maxHeartbeats 8000000 in
theorem Tbld_g (l : List Ru) (A : Option Addr) (c : Nat) {w : World} (hl : RuK.Rd w A c l) (h4 : l.length ≤ 100000) (hok : ∀ r ∈ l, okR r = true) :
  Calls Try.prog 29 #[.slice A l.length c] w (RetFr w (bldE l)) := by
 have hN := hid fun h => bld_none (l := l) h
 have hY := hid fun h (S T : List Sp) hS hS2 hT hT2 => bld_some (l := l) h (S := S) (T := T) hS hS2 hT hT2
 have HB1 := hid fun (v : Bool) (W : World) (hb : Below w.heap.size w W) => TBnd_g l A c v (hl.below hb) h4
 have HAp := hid fun (v : Bool) (W : World) (B : Option Addr) (d : Nat) (hr : BdK.Rd W B d (bndE l v)) => Tapt_g (bndE l v) B d hr (bnd_small hok) (Nat.le_trans (bndE_len l v) h4)
 have HSp := hid fun (v : Bool) (W : World) (hb : Below w.heap.size w W) (own oth : List (Int × Int)) (ho : own = bndE l v) (ht : oth = bndE l !v) (B C : Option Addr) (d e : Nat) (hB : BdK.Rd W B d own) (hC : BdK.Rd W C e oth) => Tspn_g l A c v own oth B C d e (hl.below hb) hB hC h4 (fun r hr hv => by rw [ho]; exact bndE_mem.2 ⟨r, hr, hv, rfl⟩) (by rw [ht]; exact bnd_small hok)
 have HOr := hid fun (W : World) (S : List Sp) (B : Option Addr) (d n k : Nat) (hr : SpK.Rd W B d S) (hs : S.length ≤ 100000) (hn : n ≤ 100000) (hk : k ≤ 100000) => Tord_g S B d n k hr hs hn hk
 have hl0 := Nat.le_trans (bndE_len l false) h4
 have hl1 := Nat.le_trans (bndE_len l true) h4
 have hsl := hid fun (v : Bool) (own oth : List (Int × Int)) => Nat.le_trans (spnL_len l v own oth) h4
 obtain ⟨n, hn⟩ : ∃ n, l.length = n := ⟨_, rfl⟩
 rw [hn] at HB1 HSp ⊢
 clear hl hok hn
 obtain ⟨O, hO⟩ : ∃ o, bldE l = o := ⟨_, rfl⟩
 rw [hO] at hN hY ⊢
 obtain ⟨H, hH⟩ : ∃ z, bndE l false = z := ⟨_, rfl⟩
 obtain ⟨V, hV⟩ : ∃ z, bndE l true = z := ⟨_, rfl⟩
 rw [hH] at hN hY hl0
 rw [hV] at hN hY hl1
 have HB2 := hid (HB1.out false)
 have HB3 := hid (HB1.out true)
 have HA1 := hid (HAp.out false)
 have HA2 := hid (HAp.out true)
 have HS1 := hid fun (W : World) (hb : Below w.heap.size w W) => HSp.out false W hb H V hH.symm hV.symm
 have HS2 := hid fun (W : World) (hb : Below w.heap.size w W) => HSp.out true W hb V H hV.symm hH.symm
 rw [hH] at HB2 HA1
 rw [hV] at HB3 HA2
 clear HB1 HAp HSp hO hH hV
 go_enter Try.func29, Try.ntmps29
 go_upto_region 1 with fail
 refine enterR (P := fun u => Code.wp _ _ _ _ u) (c := fr0) ?_
 intro u HB rg zg hsz
 clear hsz
 have HB2' := hid (HB2.out u HB)
 clear HB2
 go_wp2_with fail
 refine HB2'.out.mono ?_
 rintro e v1 ⟨A1, c1, rfl, hr1, hv1⟩
 replace rg := rng_below rg hv1
 replace zg := zg.below hv1
 replace HB := bel_step HB hv1
 have HB3' := hid (HB3.out v1 HB)
 clear HB3 HB2'
 go_wp2_with fail
 refine HB3'.out.mono ?_
 rintro e v2 ⟨A2, c2, rfl, hr2, hv2⟩
 replace hr1 := hr1.below hv2
 replace rg := rng_below rg hv2
 replace zg := zg.below hv2
 replace HB := bel_step HB hv2
 clear HB3' hv1 hv2
 go_upto_region 2 with fail
 refine enterR (P := fun u => Code.wp _ _ _ _ u) (c := [.slice A1 H.length c1, .slice A2 V.length c2, .slice none 0 0, .slice none 0 0]) ?_
 intro x hbx r4 z4 hs4
 have hgw := HB.size
 have hgl := zg.lt
 have hb0 := hid hbx
 obtain ⟨g, hg⟩ : ∃ g, v2.heap.size = g := ⟨_, rfl⟩
 have hR1 := hid fun (W : World) (hb : Below g v2 W) => (show BdK.Rd W A1 c1 H ∧ BdK.Rd W A2 c2 V from by rw [← hg] at hb; exact ⟨hr1.below hb, hr2.below hb⟩)
 have hRes := hid fun (W : World) (hb : Below g v2 W) => (show W.rangeAt w.heap.size 0 fr0 ∧ Zn W w.heap.size ∧ Below w.heap.size w W from by rw [← hg] at hb; exact ⟨rng_below rg hb, zg.below hb, bel_step HB hb⟩)
 have hb0 : Below g v2 x := by rw [← hg]; exact hb0.out
 rw [hg] at r4 z4 hs4 hgl hgw ⊢
 obtain ⟨nH, hnH⟩ : ∃ n, H.length = n := ⟨_, rfl⟩
 obtain ⟨nV, hnV⟩ : ∃ n, V.length = n := ⟨_, rfl⟩
 rw [hnH] at r4 HA1 HS1 HS2 hl0 hY ⊢
 rw [hnV] at r4 HA2 HS1 HS2 hl1 hY ⊢
 have f0 : x.cell? ⟨g, 0, none⟩ = some (.slice A1 nH c1) := r4 0 _ rfl
 have f1 : x.cell? ⟨g, 1, none⟩ = some (.slice A2 nV c2) := r4 1 _ rfl
 have f2 : x.cell? ⟨g, 2, none⟩ = some (.slice none 0 0) := r4 2 _ rfl
 have f3 : x.cell? ⟨g, 3, none⟩ = some (.slice none 0 0) := r4 3 _ rfl
 have ltx := z4.lt
 have hnH := hid hnH
 have hnV := hid hnV
 clear r4 hs4 hbx hr1 hr2 rg zg HB hg
 have h1 := hid (HA1.out x A1 c1 (hR1.out x hb0).1)
 clear HA1
 go_wp2_with fail
 refine h1.out.mono ?_
 rintro e x1 ⟨rfl, hq⟩
 have hb1 : Below g v2 x1 := hb0.trans (hq.mono (Nat.le_of_lt ltx))
 have f0 := keep_cell hq f0
 have f1 := keep_cell hq f1
 have f2 := keep_cell hq f2
 have f3 := keep_cell hq f3
 have z4 := z4.below hq
 have lt1 := z4.lt
 clear h1 hq hb0 ltx
 cases hap : aptE H
 ·have hnone := hid (hN.out (by rw [hap]; rfl))
  obtain ⟨rg, zg, HB⟩ := hRes.out x1 hb1
  clear hN hY HA2 HS1 HS2 HOr hR1 hRes hb1 hap z4 lt1
  have k0 : (x1).cell? ⟨w.heap.size, 0, none⟩ = some (.slice none 0 0) := rg 0 _ rfl
  have k1 : (x1).cell? ⟨w.heap.size, 1, none⟩ = some (.slice none 0 0) := rg 1 _ rfl
  have k2 : (x1).cell? ⟨w.heap.size, 2, none⟩ = some (.slice none 0 0) := rg 2 _ rfl
  have k3 : (x1).cell? ⟨w.heap.size, 3, none⟩ = some (.slice none 0 0) := rg 3 _ rfl
  have ltk := cell_lt k0
  have fk := zg.fr
  have HBf := hid (below_set (below_set (below_set (below_set HB (Nat.le_refl _) 0 (.slice none 0 0)) (Nat.le_refl _) 1 (.slice none 0 0)) (Nat.le_refl _) 2 (.slice none 0 0)) (Nat.le_refl _) 3 (.slice none 0 0))
  clear rg zg HB
  go_wp2
  refine bodyPost_ret (v := .tuple #[.agg #[.slice none 0 0, .slice none 0 0, .slice none 0 0, .slice none 0 0], .bool false]) ?_ rfl ?_
  ·simp [results, Try.results29, go_sem, k0, k1, k2, k3]
  ·exact ⟨HBf.out, _, ⟨_, _, _, _, _, _, _, _, _, _, _, _, rfl⟩, by rw [hnone.out]; rfl, fun f hf => by rw [hnone.out] at hf; cases hf⟩
 ·have h2 := hid (HA2.out x1 A2 c2 (hR1.out x1 hb1).2)
  clear HA2
  go_wp2_with fail
  refine h2.out.mono ?_
  rintro e x2 ⟨rfl, hq⟩
  have hb2 : Below g v2 x2 := hb1.trans (hq.mono (Nat.le_of_lt lt1))
  have f0 := keep_cell hq f0
  have f1 := keep_cell hq f1
  have f2 := keep_cell hq f2
  have f3 := keep_cell hq f3
  have z4 := z4.below hq
  have lt2 := z4.lt
  clear h2 hq hb1 lt1
  cases hapV : aptE V
  ·have hnone := hid (hN.out (by rw [hap, hapV]; rfl))
   obtain ⟨rg, zg, HB⟩ := hRes.out x2 hb2
   clear hN hY HS1 HS2 HOr hR1 hRes hb2 hap hapV z4 lt2
   have k0 : (x2).cell? ⟨w.heap.size, 0, none⟩ = some (.slice none 0 0) := rg 0 _ rfl
   have k1 : (x2).cell? ⟨w.heap.size, 1, none⟩ = some (.slice none 0 0) := rg 1 _ rfl
   have k2 : (x2).cell? ⟨w.heap.size, 2, none⟩ = some (.slice none 0 0) := rg 2 _ rfl
   have k3 : (x2).cell? ⟨w.heap.size, 3, none⟩ = some (.slice none 0 0) := rg 3 _ rfl
   have ltk := cell_lt k0
   have fk := zg.fr
   have HBf := hid (below_set (below_set (below_set (below_set HB (Nat.le_refl _) 0 (.slice none 0 0)) (Nat.le_refl _) 1 (.slice none 0 0)) (Nat.le_refl _) 2 (.slice none 0 0)) (Nat.le_refl _) 3 (.slice none 0 0))
   clear rg zg HB
   go_wp2
   refine bodyPost_ret (v := .tuple #[.agg #[.slice none 0 0, .slice none 0 0, .slice none 0 0, .slice none 0 0], .bool false]) ?_ rfl ?_
   ·simp [results, Try.results29, go_sem, k0, k1, k2, k3]
   ·exact ⟨HBf.out, _, ⟨_, _, _, _, _, _, _, _, _, _, _, _, rfl⟩, by rw [hnone.out]; rfl, fun f hf => by rw [hnone.out] at hf; cases hf⟩
  ·obtain ⟨rg, zg, HB⟩ := hRes.out x2 hb2
   obtain ⟨q1, q2⟩ := hR1.out x2 hb2
   have h3 := hid (HS1.out x2 HB A1 A2 c1 c2 q1 q2)
   clear HS1 rg zg HB q1 q2
   go_wp2_with fail
   refine h3.out.mono ?_
   rintro e x3 ⟨hq, hsp⟩
   have hb3 : Below g v2 x3 := hb2.trans (hq.mono (Nat.le_of_lt lt2))
   have f0 := keep_cell hq f0
   have f1 := keep_cell hq f1
   have f2 := keep_cell hq f2
   have f3 := keep_cell hq f3
   have z4 := z4.below hq
   have z4f := z4.fr
   have lt3 := z4.lt
   clear h3 hb2
   cases hsa : spnA l false H V
   ·have hnone := hid (hN.out (by rw [hap, hapV, hsa]; rfl))
    rw [hsa] at hsp
    obtain rfl := hsp
    go_upto_region 6 with fail
    have hb4 : Below g v2 (x3.setCell ⟨g, 2, none⟩ (.slice none 0 0)) := below_set hb3 (Nat.le_refl _) _ _
    generalize x3.setCell ⟨g, 2, none⟩ (.slice none 0 0) = x4 at hb4 ⊢
    obtain ⟨rg, zg, HB⟩ := hRes.out x4 hb4
    clear hN hY HS2 HOr hR1 hRes hb3 hb4 hap hapV hsa z4 z4f lt2 lt3 f0 f1 f2 f3 hq
    have k0 : (x4).cell? ⟨w.heap.size, 0, none⟩ = some (.slice none 0 0) := rg 0 _ rfl
    have k1 : (x4).cell? ⟨w.heap.size, 1, none⟩ = some (.slice none 0 0) := rg 1 _ rfl
    have k2 : (x4).cell? ⟨w.heap.size, 2, none⟩ = some (.slice none 0 0) := rg 2 _ rfl
    have k3 : (x4).cell? ⟨w.heap.size, 3, none⟩ = some (.slice none 0 0) := rg 3 _ rfl
    have ltk := cell_lt k0
    have fk := zg.fr
    have HBf := hid (below_set (below_set (below_set (below_set HB (Nat.le_refl _) 0 (.slice none 0 0)) (Nat.le_refl _) 1 (.slice none 0 0)) (Nat.le_refl _) 2 (.slice none 0 0)) (Nat.le_refl _) 3 (.slice none 0 0))
    clear rg zg HB
    go_wp2
    refine bodyPost_ret (v := .tuple #[.agg #[.slice none 0 0, .slice none 0 0, .slice none 0 0, .slice none 0 0], .bool false]) ?_ rfl ?_
    ·simp [results, Try.results29, go_sem, k0, k1, k2, k3]
    ·exact ⟨HBf.out, _, ⟨_, _, _, _, _, _, _, _, _, _, _, _, rfl⟩, by rw [hnone.out]; rfl, fun f hf => by rw [hnone.out] at hf; cases hf⟩
   ·rw [hsa] at hsp
    obtain ⟨vS, S, rfl, hOS, hPS, hQS⟩ := hsp
    obtain ⟨A3, c3, e3⟩ := hOS.form SpKo
    obtain ⟨nS, hnS⟩ : ∃ n, S.length = n := ⟨_, rfl⟩
    rw [hnS] at e3
    subst e3
    replace hnS := hid hnS
    go_upto_region 6 with fail
    have hb4 : Below g v2 (x3.setCell ⟨g, 2, none⟩ (.slice A3 nS c3)) := below_set hb3 (Nat.le_refl _) _ _
    have k0 : (x3.setCell ⟨g, 2, none⟩ (.slice A3 nS c3)).cell? ⟨g, 0, none⟩ = some (.slice A1 nH c1) := (cell_set_ne (by omega)).trans f0
    have k1 : (x3.setCell ⟨g, 2, none⟩ (.slice A3 nS c3)).cell? ⟨g, 1, none⟩ = some (.slice A2 nV c2) := (cell_set_ne (by omega)).trans f1
    have k2 : (x3.setCell ⟨g, 2, none⟩ (.slice A3 nS c3)).cell? ⟨g, 2, none⟩ = some (.slice A3 nS c3) := at_set f2
    have k3 : (x3.setCell ⟨g, 2, none⟩ (.slice A3 nS c3)).cell? ⟨g, 3, none⟩ = some (.slice none 0 0) := (cell_set_ne (by omega)).trans f3
    have z5 : Zn (x3.setCell ⟨g, 2, none⟩ (.slice A3 nS c3)) g := z4.set_
    have hO4 := hOS.grown (gb_set (w := x3) (g := g) (i := 2) (v := .slice A3 nS c3)) (.inr fun e => by have := (hOS.lt e).1; omega)
    have ltx4 : x2.heap.size ≤ (x3.setCell ⟨g, 2, none⟩ (.slice A3 nS c3)).heap.size := by have := hq.size; simpa using this
    generalize x3.setCell ⟨g, 2, none⟩ (.slice A3 nS c3) = x4 at *
    clear hOS z4 z4f f0 f1 f2 f3 hb3 lt3 hq
    obtain ⟨rg, zg, HB⟩ := hRes.out x4 hb4
    obtain ⟨q1, q2⟩ := hR1.out x4 hb4
    have h3 := hid (HS2.out x4 HB A2 A1 c2 c1 q2 q1)
    have lt4 := z5.lt
    clear HS2 rg zg HB q1 q2
    go_wp2_with fail
    refine h3.out.mono ?_
    rintro e x5 ⟨hq, hsp⟩
    have hb5 : Below g v2 x5 := hb4.trans (hq.mono (Nat.le_of_lt lt4))
    have f0 := keep_cell hq k0
    have f1 := keep_cell hq k1
    have f2 := keep_cell hq k2
    have f3 := keep_cell hq k3
    have z4 := z5.below hq
    have z4f := z4.fr
    have lt5 := z4.lt
    have hO5 := hO4.below hq
    clear h3 hb4 k0 k1 k2 k3 z5 hO4
    cases hsd : spnA l true V H
    ·have hnone := hid (hN.out (by rw [hap, hapV, hsa, hsd]; rfl))
     rw [hsd] at hsp
     obtain rfl := hsp
     go_upto_region 9 with fail
     have hb6 : Below g v2 (x5.setCell ⟨g, 3, none⟩ (.slice none 0 0)) := below_set hb5 (Nat.le_refl _) _ _
     generalize x5.setCell ⟨g, 3, none⟩ (.slice none 0 0) = x6 at hb6 ⊢
     obtain ⟨rg, zg, HB⟩ := hRes.out x6 hb6
     clear hN hY HOr hR1 hRes hb5 hb6 hap hapV hsa hsd z4 z4f lt4 lt5 f0 f1 f2 f3 hO5 hPS hQS hq
     have k0 : (x6).cell? ⟨w.heap.size, 0, none⟩ = some (.slice none 0 0) := rg 0 _ rfl
     have k1 : (x6).cell? ⟨w.heap.size, 1, none⟩ = some (.slice none 0 0) := rg 1 _ rfl
     have k2 : (x6).cell? ⟨w.heap.size, 2, none⟩ = some (.slice none 0 0) := rg 2 _ rfl
     have k3 : (x6).cell? ⟨w.heap.size, 3, none⟩ = some (.slice none 0 0) := rg 3 _ rfl
     have ltk := cell_lt k0
     have fk := zg.fr
     have HBf := hid (below_set (below_set (below_set (below_set HB (Nat.le_refl _) 0 (.slice none 0 0)) (Nat.le_refl _) 1 (.slice none 0 0)) (Nat.le_refl _) 2 (.slice none 0 0)) (Nat.le_refl _) 3 (.slice none 0 0))
     clear rg zg HB
     go_wp2
     refine bodyPost_ret (v := .tuple #[.agg #[.slice none 0 0, .slice none 0 0, .slice none 0 0, .slice none 0 0], .bool false]) ?_ rfl ?_
     ·simp [results, Try.results29, go_sem, k0, k1, k2, k3]
     ·exact ⟨HBf.out, _, ⟨_, _, _, _, _, _, _, _, _, _, _, _, rfl⟩, by rw [hnone.out]; rfl, fun f hf => by rw [hnone.out] at hf; cases hf⟩
    ·rw [hsd] at hsp
     obtain ⟨vT, T, rfl, hOT, hPT, hQT⟩ := hsp
     obtain ⟨A4, c4, e4⟩ := hOT.form SpKo
     obtain ⟨nT, hnT⟩ : ∃ n, T.length = n := ⟨_, rfl⟩
     rw [hnT] at e4
     subst e4
     replace hnT := hid hnT
     go_upto_region 9 with fail
     have hb6 : Below g v2 (x5.setCell ⟨g, 3, none⟩ (.slice A4 nT c4)) := below_set hb5 (Nat.le_refl _) _ _
     have k0 : (x5.setCell ⟨g, 3, none⟩ (.slice A4 nT c4)).cell? ⟨g, 0, none⟩ = some (.slice A1 nH c1) := (cell_set_ne (by omega)).trans f0
     have k1 : (x5.setCell ⟨g, 3, none⟩ (.slice A4 nT c4)).cell? ⟨g, 1, none⟩ = some (.slice A2 nV c2) := (cell_set_ne (by omega)).trans f1
     have k2 : (x5.setCell ⟨g, 3, none⟩ (.slice A4 nT c4)).cell? ⟨g, 2, none⟩ = some (.slice A3 nS c3) := (cell_set_ne (by omega)).trans f2
     have k3 : (x5.setCell ⟨g, 3, none⟩ (.slice A4 nT c4)).cell? ⟨g, 3, none⟩ = some (.slice A4 nT c4) := at_set f3
     have hO6 := hO5.grown (gb_set (w := x5) (g := g) (i := 3) (v := .slice A4 nT c4)) (.inr fun e => by have := (hO5.lt e).1; omega)
     have hT6 := hOT.grown (gb_set (w := x5) (g := g) (i := 3) (v := .slice A4 nT c4)) (.inr fun e => by have := (hOT.lt e).1; omega)
     have lt6 : g < (x5.setCell ⟨g, 3, none⟩ (.slice A4 nT c4)).heap.size := by simpa using lt5
     generalize x5.setCell ⟨g, 3, none⟩ (.slice A4 nT c4) = x6 at *
     have hcond : (aptE H && aptE V && spnA l false H V && spnA l true V H) = true := by rw [hap, hapV, hsa, hsd]; rfl
     have hlS : S.length ≤ 100000 := by rw [hPS.length_eq]; exact hsl.out _ _ _
     have hlT : T.length ≤ 100000 := by rw [hPT.length_eq]; exact hsl.out _ _ _
     obtain ⟨hy1, hy2⟩ := hY.out hcond S T hPS (hQS.imp fun hx => by omega) hPT (hQT.imp fun hx => by omega)
     obtain ⟨hr3, -⟩ := hO6.rd2 SpKo
     obtain ⟨hr4, -⟩ := hT6.rd2 SpKo
     have h7 := hid fun (W : World) (hb : Below x6.heap.size x6 W) => (show Calls Try.prog 44 #[.slice A3 nS c3, .int .i64 (nH : Int), .int .i64 (nV : Int)] W (RetB W (ordE S nH nV)) from by
      have := HOr.out W S A3 c3 nH nV (hr3.below hb) hlS hl0 hl1
      rwa [hnS.out] at this)
     have h8 := hid fun (W : World) (hb : Below x6.heap.size x6 W) => (show Calls Try.prog 44 #[.slice A4 nT c4, .int .i64 (nV : Int), .int .i64 (nH : Int)] W (RetB W (ordE T nV nH)) from by
      have := HOr.out W T A4 c4 nV nH (hr4.below hb) hlT hl1 hl0
      rwa [hnT.out] at this)
     obtain ⟨rg, zg, HB⟩ := hRes.out x6 hb6
     obtain ⟨hr1, hr2⟩ := hR1.out x6 hb6
     have hfr := hid fun (f : Fr) (hf : O = some f) (W : World) (q1 : BdK.Rd W A1 c1 H) (q2 : BdK.Rd W A2 c2 V) (q3 : SpK.Rd W A3 c3 S) (q4 : SpK.Rd W A4 c4 T) => (show FrRd W (.agg #[.slice A1 nH c1, .slice A2 nV c2, .slice A3 nS c3, .slice A4 nT c4]) f from by
      obtain rfl := hy2 f hf
      exact ⟨A1, c1, A2, c2, A3, c3, A4, c4, by rw [hnH.out, hnV.out, hnS.out, hnT.out], ⟨q1, q2⟩, q3, q4⟩)
     have hy1 := hid hy1
     clear hO5 hOT hO6 hT6 hPS hQS hPT hQT hcond hap hapV hsa hsd hN hY HOr hb5 f0 f1 f2 f3 z4 z4f lt4 lt5 hq hb6 hR1 hRes hy2 hlS hlT
     go_upto_region 11 with fail
     go_quiet (fail)
     have hv : Below x6.heap.size x6 (x6.drewN nq) := below_drewN (Below.refl _ _) _
     generalize x6.drewN nq = x7 at hv ⊢
     have f0 := keep_cell hv k0
     have f1 := keep_cell hv k1
     have f2 := keep_cell hv k2
     have f3 := keep_cell hv k3
     clear k0 k1 k2 k3
     go_upto_region 12 with fail
     refine Ords.start (x := 14) (S := fun w' => w'.cell? ⟨g, 0, none⟩ = some (.slice A1 nH c1) ∧ w'.cell? ⟨g, 1, none⟩ = some (.slice A2 nV c2) ∧ w'.cell? ⟨g, 2, none⟩ = some (.slice A3 nS c3) ∧ w'.cell? ⟨g, 3, none⟩ = some (.slice A4 nT c4)) (by kernel_rfl) ⟨f0, f1, f2, f3⟩ (fun hHeld => ?_)
     have hv : Below x6.heap.size x6 x7.drew := hv.drew
     generalize x7.drew = x8 at hv hHeld ⊢
     clear f0 f1 f2 f3
     refine' Ords.take (i := 0) ?_ ?_ ?_ ?_ ?_ ?_ ?_ ?_ ?_
     rotate_left 2
     ·(simp only [List.getElem?_toArray, List.getElem?_cons_succ, List.getElem?_cons_zero]; rfl)
     ·kernel_rfl
     ·kernel_rfl
     ·kernel_rfl
     ·kernel_rfl
     ·exact fun _ _ _ h => h
     ·(refine Or.inl ⟨by rfl, ?_⟩; intro w_ hSw_; (try dsimp only at hSw_); go_simp; (try with_reducible rfl))
     ·assumption
     (try simp only [Act.put, Lp0, Lp1, Lp2])
     refine' Ords.take (i := 1) ?_ ?_ ?_ ?_ ?_ ?_ ?_ ?_ ?_
     rotate_left 2
     ·(simp only [List.getElem?_toArray, List.getElem?_cons_succ, List.getElem?_cons_zero]; rfl)
     ·kernel_rfl
     ·kernel_rfl
     ·kernel_rfl
     ·kernel_rfl
     ·exact fun _ _ _ h => h
     ·(refine Or.inl ⟨by rfl, ?_⟩; intro w_ hSw_; (try dsimp only at hSw_); go_simp; (try with_reducible rfl))
     ·assumption
     (try simp only [Act.put, Lp0, Lp1, Lp2])
     refine' Ords.take (i := 2) ?_ ?_ ?_ ?_ ?_ ?_ ?_ ?_ ?_
     rotate_left 2
     ·(simp only [List.getElem?_toArray, List.getElem?_cons_succ, List.getElem?_cons_zero]; rfl)
     ·kernel_rfl
     ·kernel_rfl
     ·kernel_rfl
     ·kernel_rfl
     ·exact fun _ _ _ h => h
     ·(refine Or.inl ⟨by rfl, ?_⟩; intro w_ hSw_; (try dsimp only at hSw_); go_simp; (try with_reducible rfl))
     ·assumption
     (try simp only [Act.put, Lp0, Lp1, Lp2])
     refine' Ords.take (i := 3) ?_ ?_ ?_ ?_ ?_ ?_ ?_ ?_ ?_
     rotate_left 2
     ·(simp only [List.getElem?_toArray, List.getElem?_cons_succ, List.getElem?_cons_zero]; rfl)
     ·kernel_rfl
     ·kernel_rfl
     ·kernel_rfl
     ·kernel_rfl
     ·exact fun _ _ _ h => h
     ·(refine Or.inl ⟨by rfl, ?_⟩; intro w_ hSw_; (try dsimp only at hSw_); go_simp; (try with_reducible rfl))
     ·assumption
     (try simp only [Act.put, Lp0, Lp1, Lp2])
     refine' Ords.take (i := 4) ?_ ?_ ?_ ?_ ?_ ?_ ?_ ?_ ?_
     rotate_left 2
     ·(simp only [List.getElem?_toArray, List.getElem?_cons_succ, List.getElem?_cons_zero]; rfl)
     ·kernel_rfl
     ·kernel_rfl
     ·kernel_rfl
     ·kernel_rfl
     ·exact fun _ _ _ h => h
     ·(refine Or.inl ⟨by rfl, ?_⟩; intro w_ hSw_; (try dsimp only at hSw_); go_simp; (try with_reducible rfl))
     ·assumption
     (try simp only [Act.put, Lp0, Lp1, Lp2])
     have h7' := hid (h7.out x8 hv)
     have hlx6 := hv.size
     clear h7
     cases hord : ordE S nH nV
     ·have hOs : Hid (O.isSome = false) := by unfold Hid; rw [← hy1.out, hord]; rfl
      rw [hord] at h7'
      refine' Ords.step (i := 5) (by kernel_rfl) (by simp only [List.getElem?_toArray, List.getElem?_cons_succ, List.getElem?_cons_zero]; rfl) (fun K hK => ?_)
      go_simp
      (refine h7'.out.mono ?_; rintro e x9 ⟨rfl, hq⟩)
      (try go_wp2_with fail)
      refine hK.out _ _ ?_ (fun hHeld => ?_)
      ·exact ⟨keep_cell hq hHeld.1, keep_cell hq hHeld.2.1, keep_cell hq hHeld.2.2.1, keep_cell hq hHeld.2.2.2⟩
      clear hK K
      (try simp only [Act.put, Lp0, Lp1, Lp2])
      refine' Ords.take (i := 6) ?_ ?_ ?_ ?_ ?_ ?_ ?_ ?_ ?_
      rotate_left 2
      ·(simp only [List.getElem?_toArray, List.getElem?_cons_succ, List.getElem?_cons_zero]; rfl)
      ·kernel_rfl
      ·kernel_rfl
      ·kernel_rfl
      ·kernel_rfl
      ·exact fun _ _ _ h => h
      ·(refine Or.inl ⟨by rfl, ?_⟩; intro w_ hSw_; (try dsimp only at hSw_); go_simp; (try with_reducible rfl))
      ·assumption
      (try simp only [Act.put, Lp0, Lp1, Lp2])
      refine' Ords.take (i := 7) (v := undef) ?_ ?_ ?_ ?_ ?_ ?_ ?_ ?_ ?_
      rotate_left 1
      ·(simp only [List.getElem?_toArray, List.getElem?_cons_succ, List.getElem?_cons_zero]; rfl)
      ·kernel_rfl
      ·kernel_rfl
      ·kernel_rfl
      ·kernel_rfl
      ·exact fun _ _ _ h => h
      ·exact Or.inr ⟨by rfl, rfl⟩
      ·assumption
      (try simp only [Act.put, Lp0, Lp1, Lp2])
      refine' Ords.take (i := 8) (v := undef) ?_ ?_ ?_ ?_ ?_ ?_ ?_ ?_ ?_
      rotate_left 1
      ·(simp only [List.getElem?_toArray, List.getElem?_cons_succ, List.getElem?_cons_zero]; rfl)
      ·kernel_rfl
      ·kernel_rfl
      ·kernel_rfl
      ·kernel_rfl
      ·exact fun _ _ _ h => h
      ·exact Or.inr ⟨by rfl, rfl⟩
      ·assumption
      (try simp only [Act.put, Lp0, Lp1, Lp2])
      refine' Ords.take (i := 9) (v := undef) ?_ ?_ ?_ ?_ ?_ ?_ ?_ ?_ ?_
      rotate_left 1
      ·(simp only [List.getElem?_toArray, List.getElem?_cons_succ, List.getElem?_cons_zero]; rfl)
      ·kernel_rfl
      ·kernel_rfl
      ·kernel_rfl
      ·kernel_rfl
      ·exact fun _ _ _ h => h
      ·exact Or.inr ⟨by rfl, rfl⟩
      ·assumption
      (try simp only [Act.put, Lp0, Lp1, Lp2])
      refine' Ords.take (i := 10) (v := undef) ?_ ?_ ?_ ?_ ?_ ?_ ?_ ?_ ?_
      rotate_left 1
      ·(simp only [List.getElem?_toArray, List.getElem?_cons_succ, List.getElem?_cons_zero]; rfl)
      ·kernel_rfl
      ·kernel_rfl
      ·kernel_rfl
      ·kernel_rfl
      ·exact fun _ _ _ h => h
      ·exact Or.inr ⟨by rfl, rfl⟩
      ·assumption
      (try simp only [Act.put, Lp0, Lp1, Lp2])
      refine' Ords.take (i := 11) (v := undef) ?_ ?_ ?_ ?_ ?_ ?_ ?_ ?_ ?_
      rotate_left 1
      ·(simp only [List.getElem?_toArray, List.getElem?_cons_succ, List.getElem?_cons_zero]; rfl)
      ·kernel_rfl
      ·kernel_rfl
      ·kernel_rfl
      ·kernel_rfl
      ·exact fun _ _ _ h => h
      ·exact Or.inr ⟨by rfl, rfl⟩
      ·assumption
      (try simp only [Act.put, Lp0, Lp1, Lp2])
      refine' Ords.take (i := 12) ?_ ?_ ?_ ?_ ?_ ?_ ?_ ?_ ?_
      rotate_left 2
      ·(simp only [List.getElem?_toArray, List.getElem?_cons_succ, List.getElem?_cons_zero]; rfl)
      ·kernel_rfl
      ·kernel_rfl
      ·kernel_rfl
      ·kernel_rfl
      ·exact fun _ _ _ h => h
      ·(refine Or.inl ⟨by rfl, ?_⟩; intro w_ hSw_; (try dsimp only at hSw_); go_simp; (try with_reducible rfl))
      ·assumption
      (try simp only [Act.put, Lp0, Lp1, Lp2])
      have hv9 := bel_step hv hq
      clear h7' h8 hy1 hord hq hv
      have m0 : (x9).cell? ⟨w.heap.size, 0, none⟩ = some (.slice none 0 0) := keep_cell hv9 (rg 0 _ rfl)
      have m1 : (x9).cell? ⟨w.heap.size, 1, none⟩ = some (.slice none 0 0) := keep_cell hv9 (rg 1 _ rfl)
      have m2 : (x9).cell? ⟨w.heap.size, 2, none⟩ = some (.slice none 0 0) := keep_cell hv9 (rg 2 _ rfl)
      have m3 : (x9).cell? ⟨w.heap.size, 3, none⟩ = some (.slice none 0 0) := keep_cell hv9 (rg 3 _ rfl)
      have zg9 := zg.below hv9
      have ltk := zg9.lt
      have fk := zg9.fr
      have hgr : w.heap.size ≠ g := by omega
      have hres := hid (show ∀ f, O = some f → FrRd ((((x9.setCell ⟨w.heap.size, 0, none⟩ (.slice A1 nH c1)).setCell ⟨w.heap.size, 1, none⟩ (.slice A2 nV c2)).setCell ⟨w.heap.size, 2, none⟩ (.slice A3 nS c3)).setCell ⟨w.heap.size, 3, none⟩ (.slice A4 nT c4)) (.agg #[.slice A1 nH c1, .slice A2 nV c2, .slice A3 nS c3, .slice A4 nT c4]) f from fun f hf => by
       have n1 : (x9.setCell ⟨w.heap.size, 0, none⟩ (.slice A1 nH c1)).cell? ⟨w.heap.size, 1, none⟩ = some (.slice none 0 0) := (cell_set_ne (by omega)).trans m1
       have n2 : ((x9.setCell ⟨w.heap.size, 0, none⟩ (.slice A1 nH c1)).setCell ⟨w.heap.size, 1, none⟩ (.slice A2 nV c2)).cell? ⟨w.heap.size, 2, none⟩ = some (.slice none 0 0) := (cell_set_ne (by omega)).trans ((cell_set_ne (by omega)).trans m2)
       have n3 : (((x9.setCell ⟨w.heap.size, 0, none⟩ (.slice A1 nH c1)).setCell ⟨w.heap.size, 1, none⟩ (.slice A2 nV c2)).setCell ⟨w.heap.size, 2, none⟩ (.slice A3 nS c3)).cell? ⟨w.heap.size, 3, none⟩ = some (.slice none 0 0) := (cell_set_ne (by omega)).trans ((cell_set_ne (by omega)).trans ((cell_set_ne (by omega)).trans m3))
       exact hfr.out f hf _ (((((hr1.below hv9).setS m0 bd_ne).setS n1 bd_ne).setS n2 bd_ne).setS n3 bd_ne) (((((hr2.below hv9).setS m0 bd_ne).setS n1 bd_ne).setS n2 bd_ne).setS n3 bd_ne) (((((hr3.below hv9).setS m0 sp_ne).setS n1 sp_ne).setS n2 sp_ne).setS n3 sp_ne) (((((hr4.below hv9).setS m0 sp_ne).setS n1 sp_ne).setS n2 sp_ne).setS n3 sp_ne))
      have HBf := hid (below_set (below_set (below_set (below_set (bel_step HB hv9) (Nat.le_refl _) 0 (.slice A1 nH c1)) (Nat.le_refl _) 1 (.slice A2 nV c2)) (Nat.le_refl _) 2 (.slice A3 nS c3)) (Nat.le_refl _) 3 (.slice A4 nT c4))
      clear hfr hr1 hr2 hr3 hr4 rg zg hv9 HB zg9
      refine' Ords.step (i := 13) (by kernel_rfl) (by simp only [List.getElem?_toArray, List.getElem?_cons_succ, List.getElem?_cons_zero]; rfl) (fun K hK => ?_)
      go_simp
      skip
      (try go_wp2_with fail)
      refine hK.out _ _ ?_ (fun hHeld => ?_)
      ·exact ⟨keep_set hgr (keep_set hgr (keep_set hgr (keep_set hgr hHeld.1))), keep_set hgr (keep_set hgr (keep_set hgr (keep_set hgr hHeld.2.1))), keep_set hgr (keep_set hgr (keep_set hgr (keep_set hgr hHeld.2.2.1))), keep_set hgr (keep_set hgr (keep_set hgr (keep_set hgr hHeld.2.2.2)))⟩
      clear hK K
      (try simp only [Act.put, Lp0, Lp1, Lp2])
      refine' Ords.last (by kernel_rfl) (by simp only [List.getElem?_toArray, List.getElem?_cons_succ, List.getElem?_cons_zero]; rfl) (by kernel_rfl) (fun K hK => ?_)
      go_simp
      (try go_wp2_with fail)
      refine hK.out _ _ ?_
      clear hK K
      (try simp only [Act.put, Lp0, Lp1, Lp2])
      go_wp2
      refine bodyPost_end (v := .tuple #[.agg #[.slice A1 nH c1, .slice A2 nV c2, .slice A3 nS c3, .slice A4 nT c4], .bool false]) ?_ rfl ?_
      ·simp [results, Try.results29, go_sem, m0, m1, m2, m3]
      ·exact ⟨HBf.out, _, ⟨_, _, _, _, _, _, _, _, _, _, _, _, rfl⟩, by rw [hOs.out], hres.out⟩
     ·rw [hord] at h7' hy1
      refine' Ords.step (i := 5) (by kernel_rfl) (by simp only [List.getElem?_toArray, List.getElem?_cons_succ, List.getElem?_cons_zero]; rfl) (fun K hK => ?_)
      go_simp
      (refine h7'.out.mono ?_; rintro e x9 ⟨rfl, hq⟩)
      (try go_wp2_with fail)
      refine hK.out _ _ ?_ (fun hHeld => ?_)
      ·exact ⟨keep_cell hq hHeld.1, keep_cell hq hHeld.2.1, keep_cell hq hHeld.2.2.1, keep_cell hq hHeld.2.2.2⟩
      clear hK K
      (try simp only [Act.put, Lp0, Lp1, Lp2])
      refine' Ords.take (i := 6) ?_ ?_ ?_ ?_ ?_ ?_ ?_ ?_ ?_
      rotate_left 2
      ·(simp only [List.getElem?_toArray, List.getElem?_cons_succ, List.getElem?_cons_zero]; rfl)
      ·kernel_rfl
      ·kernel_rfl
      ·kernel_rfl
      ·kernel_rfl
      ·exact fun _ _ _ h => h
      ·(refine Or.inl ⟨by rfl, ?_⟩; intro w_ hSw_; (try dsimp only at hSw_); go_simp; (try with_reducible rfl))
      ·assumption
      (try simp only [Act.put, Lp0, Lp1, Lp2])
      refine' Ords.take (i := 7) ?_ ?_ ?_ ?_ ?_ ?_ ?_ ?_ ?_
      rotate_left 2
      ·(simp only [List.getElem?_toArray, List.getElem?_cons_succ, List.getElem?_cons_zero]; rfl)
      ·kernel_rfl
      ·kernel_rfl
      ·kernel_rfl
      ·kernel_rfl
      ·exact fun _ _ _ h => h
      ·(refine Or.inl ⟨by rfl, ?_⟩; intro w_ hSw_; (try dsimp only at hSw_); go_simp; (try with_reducible rfl))
      ·assumption
      (try simp only [Act.put, Lp0, Lp1, Lp2])
      refine' Ords.take (i := 8) ?_ ?_ ?_ ?_ ?_ ?_ ?_ ?_ ?_
      rotate_left 2
      ·(simp only [List.getElem?_toArray, List.getElem?_cons_succ, List.getElem?_cons_zero]; rfl)
      ·kernel_rfl
      ·kernel_rfl
      ·kernel_rfl
      ·kernel_rfl
      ·exact fun _ _ _ h => h
      ·(refine Or.inl ⟨by rfl, ?_⟩; intro w_ hSw_; (try dsimp only at hSw_); go_simp; (try with_reducible rfl))
      ·assumption
      (try simp only [Act.put, Lp0, Lp1, Lp2])
      refine' Ords.take (i := 9) ?_ ?_ ?_ ?_ ?_ ?_ ?_ ?_ ?_
      rotate_left 2
      ·(simp only [List.getElem?_toArray, List.getElem?_cons_succ, List.getElem?_cons_zero]; rfl)
      ·kernel_rfl
      ·kernel_rfl
      ·kernel_rfl
      ·kernel_rfl
      ·exact fun _ _ _ h => h
      ·(refine Or.inl ⟨by rfl, ?_⟩; intro w_ hSw_; (try dsimp only at hSw_); go_simp; (try with_reducible rfl))
      ·assumption
      (try simp only [Act.put, Lp0, Lp1, Lp2])
      refine' Ords.take (i := 10) ?_ ?_ ?_ ?_ ?_ ?_ ?_ ?_ ?_
      rotate_left 2
      ·(simp only [List.getElem?_toArray, List.getElem?_cons_succ, List.getElem?_cons_zero]; rfl)
      ·kernel_rfl
      ·kernel_rfl
      ·kernel_rfl
      ·kernel_rfl
      ·exact fun _ _ _ h => h
      ·(refine Or.inl ⟨by rfl, ?_⟩; intro w_ hSw_; (try dsimp only at hSw_); go_simp; (try with_reducible rfl))
      ·assumption
      (try simp only [Act.put, Lp0, Lp1, Lp2])
      have hv9 := bel_step hv hq
      have h8' := hid (h8.out x9 hv9)
      have hOs : Hid (O.isSome = ordE T nV nH) := by unfold Hid; rw [← hy1.out]; rfl
      obtain ⟨t2, ht2⟩ : ∃ t, ordE T nV nH = t := ⟨_, rfl⟩
      rw [ht2] at h8' hOs
      clear h7' h8 hy1 hord hq hv ht2
      refine' Ords.step (i := 11) (by kernel_rfl) (by simp only [List.getElem?_toArray, List.getElem?_cons_succ, List.getElem?_cons_zero]; rfl) (fun K hK => ?_)
      go_simp
      (refine h8'.out.mono ?_; rintro e x10 ⟨rfl, hq⟩)
      (try go_wp2_with fail)
      refine hK.out _ _ ?_ (fun hHeld => ?_)
      ·exact ⟨keep_cell hq hHeld.1, keep_cell hq hHeld.2.1, keep_cell hq hHeld.2.2.1, keep_cell hq hHeld.2.2.2⟩
      clear hK K
      (try simp only [Act.put, Lp0, Lp1, Lp2])
      refine' Ords.take (i := 12) ?_ ?_ ?_ ?_ ?_ ?_ ?_ ?_ ?_
      rotate_left 2
      ·(simp only [List.getElem?_toArray, List.getElem?_cons_succ, List.getElem?_cons_zero]; rfl)
      ·kernel_rfl
      ·kernel_rfl
      ·kernel_rfl
      ·kernel_rfl
      ·exact fun _ _ _ h => h
      ·(refine Or.inl ⟨by rfl, ?_⟩; intro w_ hSw_; (try dsimp only at hSw_); go_simp; (try with_reducible rfl))
      ·assumption
      (try simp only [Act.put, Lp0, Lp1, Lp2])
      have hv10 := bel_step hv9 hq
      clear h8' hv9 hq
      have m0 : (x10).cell? ⟨w.heap.size, 0, none⟩ = some (.slice none 0 0) := keep_cell hv10 (rg 0 _ rfl)
      have m1 : (x10).cell? ⟨w.heap.size, 1, none⟩ = some (.slice none 0 0) := keep_cell hv10 (rg 1 _ rfl)
      have m2 : (x10).cell? ⟨w.heap.size, 2, none⟩ = some (.slice none 0 0) := keep_cell hv10 (rg 2 _ rfl)
      have m3 : (x10).cell? ⟨w.heap.size, 3, none⟩ = some (.slice none 0 0) := keep_cell hv10 (rg 3 _ rfl)
      have zg9 := zg.below hv10
      have ltk := zg9.lt
      have fk := zg9.fr
      have hgr : w.heap.size ≠ g := by omega
      have hres := hid (show ∀ f, O = some f → FrRd ((((x10.setCell ⟨w.heap.size, 0, none⟩ (.slice A1 nH c1)).setCell ⟨w.heap.size, 1, none⟩ (.slice A2 nV c2)).setCell ⟨w.heap.size, 2, none⟩ (.slice A3 nS c3)).setCell ⟨w.heap.size, 3, none⟩ (.slice A4 nT c4)) (.agg #[.slice A1 nH c1, .slice A2 nV c2, .slice A3 nS c3, .slice A4 nT c4]) f from fun f hf => by
       have n1 : (x10.setCell ⟨w.heap.size, 0, none⟩ (.slice A1 nH c1)).cell? ⟨w.heap.size, 1, none⟩ = some (.slice none 0 0) := (cell_set_ne (by omega)).trans m1
       have n2 : ((x10.setCell ⟨w.heap.size, 0, none⟩ (.slice A1 nH c1)).setCell ⟨w.heap.size, 1, none⟩ (.slice A2 nV c2)).cell? ⟨w.heap.size, 2, none⟩ = some (.slice none 0 0) := (cell_set_ne (by omega)).trans ((cell_set_ne (by omega)).trans m2)
       have n3 : (((x10.setCell ⟨w.heap.size, 0, none⟩ (.slice A1 nH c1)).setCell ⟨w.heap.size, 1, none⟩ (.slice A2 nV c2)).setCell ⟨w.heap.size, 2, none⟩ (.slice A3 nS c3)).cell? ⟨w.heap.size, 3, none⟩ = some (.slice none 0 0) := (cell_set_ne (by omega)).trans ((cell_set_ne (by omega)).trans ((cell_set_ne (by omega)).trans m3))
       exact hfr.out f hf _ (((((hr1.below hv10).setS m0 bd_ne).setS n1 bd_ne).setS n2 bd_ne).setS n3 bd_ne) (((((hr2.below hv10).setS m0 bd_ne).setS n1 bd_ne).setS n2 bd_ne).setS n3 bd_ne) (((((hr3.below hv10).setS m0 sp_ne).setS n1 sp_ne).setS n2 sp_ne).setS n3 sp_ne) (((((hr4.below hv10).setS m0 sp_ne).setS n1 sp_ne).setS n2 sp_ne).setS n3 sp_ne))
      have HBf := hid (below_set (below_set (below_set (below_set (bel_step HB hv10) (Nat.le_refl _) 0 (.slice A1 nH c1)) (Nat.le_refl _) 1 (.slice A2 nV c2)) (Nat.le_refl _) 2 (.slice A3 nS c3)) (Nat.le_refl _) 3 (.slice A4 nT c4))
      clear hfr hr1 hr2 hr3 hr4 rg zg hv10 HB zg9
      refine' Ords.step (i := 13) (by kernel_rfl) (by simp only [List.getElem?_toArray, List.getElem?_cons_succ, List.getElem?_cons_zero]; rfl) (fun K hK => ?_)
      go_simp
      skip
      (try go_wp2_with fail)
      refine hK.out _ _ ?_ (fun hHeld => ?_)
      ·exact ⟨keep_set hgr (keep_set hgr (keep_set hgr (keep_set hgr hHeld.1))), keep_set hgr (keep_set hgr (keep_set hgr (keep_set hgr hHeld.2.1))), keep_set hgr (keep_set hgr (keep_set hgr (keep_set hgr hHeld.2.2.1))), keep_set hgr (keep_set hgr (keep_set hgr (keep_set hgr hHeld.2.2.2)))⟩
      clear hK K
      (try simp only [Act.put, Lp0, Lp1, Lp2])
      refine' Ords.last (by kernel_rfl) (by simp only [List.getElem?_toArray, List.getElem?_cons_succ, List.getElem?_cons_zero]; rfl) (by kernel_rfl) (fun K hK => ?_)
      go_simp
      (try go_wp2_with fail)
      refine hK.out _ _ ?_
      clear hK K
      (try simp only [Act.put, Lp0, Lp1, Lp2])
      go_wp2
      refine bodyPost_end (v := .tuple #[.agg #[.slice A1 nH c1, .slice A2 nV c2, .slice A3 nS c3, .slice A4 nT c4], .bool t2]) ?_ rfl ?_
      ·simp [results, Try.results29, go_sem, m0, m1, m2, m3]
      ·exact ⟨HBf.out, _, ⟨_, _, _, _, _, _, _, _, _, _, _, _, rfl⟩, by rw [hOs.out], hres.out⟩
end Go.Proofs.Ytjfgklhifhaaoaa
