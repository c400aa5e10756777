/- Tables: the library's sort of a row that the call owns. Conditions: none beyond the sizes. -/
import Derived.Test.YtjfgklhifhaaoaaZTe1
import Derived.Test.YtjfgklhifhaaoaaZTsL
import Derived.Test.YtjfgklhifhaaoaaZTc1
set_option linter.unusedVariables false
set_option linter.unusedSimpArgs false
namespace Go.Proofs.Ytjfgklhifhaaoaa
open Go.RowKit Go.Shelf Go.Lib Go.Sort
section
variable {α : Type} [Inhabited α] {X : Knd α}
theorem Knd.Own.holds (ok : X.Ok) {w : World} {base g n c : Nat} {l : List α} (h : X.Own w base (.slice (some ⟨g, 0, none⟩) n c) l) : HoldsK X.enc X.k w g 0 l.toArray ∧ n = l.length ∧ g < w.heap.size ∧ base ≤ g := by
 rcases h.2 with ⟨h1, _⟩ | ⟨g', cap, cur, hv, hbg, hg, hnc, hmx, hcs, htake⟩
 ·cases h1
 ·injection hv with e1 e2 e3
  injection e1 with e1
  injection e1 with e1
  subst e1 e2
  refine ⟨fun t ht => ?_, rfl, (Array.getElem?_eq_some_iff.1 hg).1, hbg⟩
  rw [size_flatK] at ht
  have hts : t < l.length * X.k := by simpa using ht
  have hk : t / X.k < l.length := Nat.div_lt_of_lt_mul (by rw [Nat.mul_comm]; exact hts)
  have hm : t % X.k < X.k := Nat.mod_lt _ ok.k0
  rw [get_flatK _ _ _ _ ht]
  have e : l.toArray[t / X.k]! = l[t / X.k] := by simp [hk]
  rw [e]
  have hlen := ok.len l[t / X.k]
  have hget : (X.enc l[t / X.k])[t % X.k]? = some ((X.enc l[t / X.k])[t % X.k]!) := by
   rw [List.getElem?_eq_getElem (by omega), getElem!_pos (X.enc l[t / X.k]) (t % X.k) (by omega)]
  have hf := Knd.flat_get ok l (t / X.k) (t % X.k) hk hm
  rw [hget, Nat.div_add_mod' t X.k] at hf
  refine ⟨?_, by simp [World.frozen?, hg]⟩
  have := World.ownsRow.cells h (g := g) rfl t _ hf
  rw [add_plain] at this
  exact this
theorem Knd.Own.sorted (ok : X.Ok) {w : World} {base g n c m : Nat} {l L : List α} {os : Array Obj} (h : X.Own w base (.slice (some ⟨g, 0, none⟩) n c) l) (hl : L.length = l.length) : X.Own (sortWorldK X.enc X.k w g 0 m L.toArray os) base (.slice (some ⟨g, 0, none⟩) n c) L ∧ w.grownBy (sortWorldK X.enc X.k w g 0 m L.toArray os) (some g) := by
 obtain ⟨hH, hn, hlt, hbg⟩ := h.holds ok
 have hH2 : HoldsK X.enc X.k (sortWorldK X.enc X.k w g 0 m L.toArray os) g 0 L.toArray := holdsK_grow X.enc X.k (putRowK X.enc X.k (Sort.ahead w m) g 0 L.toArray) os g 0 L.toArray (by simp [size_putRowK, Sort.ahead]; exact hlt) (holdsK_putRowK _ _ _ _ _ l.toArray L.toArray (holdsK_ahead _ _ _ m _ _ _ hH) (by simpa using hl))
 rcases h.2 with ⟨h1, _⟩ | ⟨g', cap, cur, hv, hbg, hg, hnc, hmx, hcs, htake⟩
 ·cases h1
 ·injection hv with e1 e2 e3
  injection e1 with e1
  injection e1 with e1
  subst e1 e3
  have hblk : (sortWorldK X.enc X.k w g 0 m L.toArray os).heap[g]? = some (.cells (putCells id 0 (flatK X.enc X.k L.toArray) cur) X.E (0, 0)) := by
   simp only [sortWorldK, grow, putRowK, putRow, mapBlock, Sort.ahead]
   rw [Array.getElem?_append_left (by simpa using hlt), Array.getElem?_modify, if_pos rfl, hg]
   rfl
  refine ⟨⟨by rw [Knd.flat_len ok], .inr ⟨g, c, _, by rw [hl, ← e2], hbg, hblk, by omega, hmx, by simp [putCells]; exact hcs, ?_⟩⟩, ⟨rfl, rfl, rfl, by simp [sortWorldK, grow, putRowK, putRow, mapBlock, Sort.ahead], fun i hi hne => ?_⟩⟩
  ·apply List.ext_getElem
   ·rw [Knd.flat_len ok, List.length_take, Array.length_toList]
    simp only [putCells, Array.length_toList, Array.size_mapIdx, hcs]
    have := Nat.mul_le_mul_right X.k hnc
    simp only [List.size_toArray]
    rw [hl]; omega
   ·intro t h1 h2
    rw [Knd.flat_len ok] at h2
    have hk : t / X.k < L.length := Nat.div_lt_of_lt_mul (by rw [Nat.mul_comm]; exact h2)
    have hm : t % X.k < X.k := Nat.mod_lt _ ok.k0
    have hc := (hH2 t (by rw [size_flatK]; simpa using h2)).1
    rw [Nat.zero_add, cell_of_row _ g t _ X.E (0, 0) hblk, get_flatK _ _ _ _ (by simpa using h2)] at hc
    have e : L.toArray[t / X.k]! = L[t / X.k] := by simp [hk]
    rw [e] at hc
    have hlen := ok.len L[t / X.k]
    have hf := Knd.flat_get ok L (t / X.k) (t % X.k) hk hm
    rw [List.getElem?_eq_getElem (show t % X.k < (X.enc L[t / X.k]).length by omega), Nat.div_add_mod' t X.k] at hf
    rw [getElem!_pos (X.enc L[t / X.k]) (t % X.k) (show t % X.k < (X.enc L[t / X.k]).length by omega)] at hc
    simp only [List.getElem_take, Array.getElem_toList]
    have a1 := (Array.getElem?_eq_some_iff.1 hc).2
    have a2 := (List.getElem?_eq_some_iff.1 hf).2
    rw [a2]
    exact a1
  ·simp only [sortWorldK, grow, putRowK, putRow, mapBlock, Sort.ahead]
   rw [Array.getElem?_append_left (by simpa using hi), Array.getElem?_modify, if_neg (fun e => hne (by rw [e]))]
/-- a sorted permutation, in plain lists -/
theorem perm_list {l : List α} {d : Array α} (h : PermIn 0 l.toArray.size l.toArray d) : d.toList.Perm l := by
 obtain ⟨h1, _, h2⟩ := h
 have e1 : d.extract 0 l.toArray.size = d := by rw [← h1]; exact Array.extract_size
 rw [e1, Array.extract_size] at h2
 exact h2
theorem sorted_list {d : Array α} {lt : α → α → Bool} {n : Nat} (h : SortedIn lt 0 n d) (hn : d.size = n) : d.toList.Pairwise fun a b => lt b a = false := by
 rw [List.pairwise_iff_getElem]
 intro i j hi hj hij
 have := h i j (Nat.zero_le _) hij (by simpa [hn] using hj)
 rw [getElem!_pos d j (by simpa using hj), getElem!_pos d i (by simpa using hi)] at this
 simpa using this
/-- slices.SortFunc of a row that the call owns -/
theorem Knd.sorts {ρ : Go.Shelf.Ren} (ok : X.Ok) (L : SlLaysF0.n6 Try.prog ρ) (aE : ∀ w, (isAgg (ρ.t 24)).run Try.prog w = .ok true w) (zE : ∀ w, (Go.sizeOf (ρ.t 24)).run Try.prog w = .ok X.k w) (cf : α → α → Int) (hO : SWO (ltOf cf)) (g : Nat)
  (eg : ∀ args w, (callFunc g args).run Try.prog w = .ok (.enter g args) w) (hcmp : ∀ (p q : α) (W : World), Calls Try.prog g (#[.agg (X.enc p).toArray, .agg (X.enc q).toArray] ++ #[]) W fun e w' => e = .returned (.int .i64 (cf p q)) ∧ ∃ n os, w' = Go.Sort.grow (W.drewN n) os)
  {w : World} {base : Nat} {v : Value} {l : List α} (h : X.Own w base v l) (hsz : l.length < 4611686018427387904) :
  Calls Try.prog (ρ.f 6) #[v, .func (.func g) #[] #[]] w fun e w' => e = .returned (.tuple #[]) ∧ ∃ S, S.Perm l ∧ (S.Pairwise fun a b => ¬ cf b a < 0) ∧ X.Own w' base v S ∧ w.grownBy w' v.ownBlock := by
 rcases h.2 with ⟨rfl, h0⟩ | ⟨g0, cap, cur, rfl, hbg, hg, _⟩
 ·obtain rfl : l = [] := List.eq_nil_of_length_eq_zero h0
  refine (AnyF.slices_SortFunc_none L none 0 (.func (.func g) #[] #[]) w).mono ?_
  rintro e w' ⟨rfl, rfl⟩
  exact ⟨rfl, [], List.Perm.nil, List.Pairwise.nil, h, World.grownBy.refl _ _⟩
 ·obtain ⟨hH, hn, hlt, _⟩ := h.holds ok
  have hs := AnyQ.slices_SortFunc L X.k aE zE X.enc ok.len ok.one cf hO g #[] g0 0 cap l.toArray w eg (fun _ _ _ _ x y => hcmp x y _) hH hlt (by simpa using hsz)
  have es : l.toArray.size = l.length := by simp
  rw [es] at hs
  refine hs.mono ?_
  rintro e w' ⟨rfl, d', n, os, hP, hS, rfl⟩
  rw [← es] at hP hS
  have h1 := perm_list hP
  have h2 := sorted_list hS hP.1
  obtain ⟨h3, h4⟩ := Knd.Own.sorted (m := n) (os := os) ok h (show d'.toList.length = l.length from h1.length_eq)
  refine ⟨rfl, d'.toList, h1, h2.imp fun hab => ?_, ?_, ?_⟩
  ·unfold ltOf at hab
   simpa using hab
  ·simpa using h3
  ·simpa [Value.ownBlock] using h4
end
end Go.Proofs.Ytjfgklhifhaaoaa
/- Tables: the three orders: of lines, of bands, of spans; sorting them. Conditions: none beyond the sizes. -/
namespace Go.Proofs.Ytjfgklhifhaaoaa
open Go.RowKit
def cmpR (a b : Ru) : Int := if a.a < b.a then -1 else if b.a < a.a then 1 else if a.f < b.f then -1 else if b.f < a.f then 1 else 0
def cmpO (x0 x1 y0 y1 : Int) : Int := if cmp1 x0 y0 = 0 then cmp1 x1 y1 else cmp1 x0 y0
theorem cmpO_eq (x0 x1 y0 y1 : Int) : cmpO x0 x1 y0 y1 = if x0 < y0 then -1 else if y0 < x0 then 1 else if x1 < y1 then -1 else if y1 < x1 then 1 else 0 := by
 unfold cmpO cmp1
 by_cases h1 : x0 < y0 <;> by_cases h2 : y0 < x0 <;> by_cases h3 : x1 < y1 <;> by_cases h4 : y1 < x1 <;> simp [h1, h2, h3, h4] <;> omega
section
variable (p q : Int × Int)
set_option maxRecDepth 100000 in
set_option maxHeartbeats 4000000 in
theorem ordB_w (W : World) : Calls Try.prog 53 #[.agg ([Value.int .i64 p.1, .int .i64 p.2] : List Value).toArray, .agg ([Value.int .i64 q.1, .int .i64 q.2] : List Value).toArray] W fun e w' => e = .returned (.int .i64 (cmpO p.1 p.2 q.1 q.2)) ∧ ∃ n os, w' = Go.Sort.grow (W.drewN n) os := by
 have H1 := hid fun (V : World) => Compare_w p.1 q.1 V
 have H2 := hid fun (V : World) => Compare_w p.2 q.2 V
 have hO : Hid (cmpO p.1 p.2 q.1 q.2 = if cmp1 p.1 q.1 = 0 then cmp1 p.2 q.2 else cmp1 p.1 q.1) := rfl
 generalize cmp1 p.1 q.1 = r0 at *
 generalize cmp1 p.2 q.2 = r1 at *
 obtain ⟨K0, hK0⟩ : ∃ k, cmpO p.1 p.2 q.1 q.2 = k := ⟨_, rfl⟩
 rw [hK0] at hO ⊢
 clear hK0
 have H3 := hid fun (g c : Nat) (V : World) (h0 : V.cell? ⟨g, 0, none⟩ = some (.int .i64 r0)) (h1 : V.cell? ⟨g, 1, none⟩ = some (.int .i64 r1)) => (show Calls Try.prog 38 #[.slice (some ⟨g, 0, none⟩) 2 c] V fun e w' => e = .returned (.int .i64 K0) ∧ w' = V from by
  have := Or_w r0 r1 g c h0 h1
  rwa [← hO.out] at this)
 clear hO
 go_enter Try.func53, Try.ntmps53
 go_upto_region 1 with fail
 refine enterR2e (P := fun u => Code.wp _ _ _ _ u) (c0 := [Value.int .i64 p.1, .int .i64 p.2]) (c1 := [Value.int .i64 q.1, .int .i64 q.2]) ?_
 intro u hu s0 s1
 have c0 : u.cell? ⟨W.heap.size, 0, none⟩ = some (.int .i64 p.1) := s0 0 _ rfl
 have c1 : u.cell? ⟨W.heap.size, 1, none⟩ = some (.int .i64 p.2) := s0 1 _ rfl
 have d0 : u.cell? ⟨W.heap.size + 1, 0, none⟩ = some (.int .i64 q.1) := s1 0 _ rfl
 have d1 : u.cell? ⟨W.heap.size + 1, 1, none⟩ = some (.int .i64 q.2) := s1 1 _ rfl
 clear s0 s1
 go_region_held3 (fun w' => w'.cell? ⟨W.heap.size, 0, none⟩ = some (.int .i64 p.1) ∧ w'.cell? ⟨W.heap.size, 1, none⟩ = some (.int .i64 p.2) ∧ w'.cell? ⟨W.heap.size + 1, 0, none⟩ = some (.int .i64 q.1) ∧ w'.cell? ⟨W.heap.size + 1, 1, none⟩ = some (.int .i64 q.2)) (first | ((try dsimp only); repeat' (first | with_reducible assumption | apply And.intro | (with_reducible refine keep_alloc ?_) | (with_reducible refine keep_drew ?_) | (with_reducible refine keep_set (by first | omega | (simp only [World.size_alloc, World.size_setCell, World.size_drew]; done) | (simp only [World.size_alloc, World.size_setCell, World.size_drew]; omega)) ?_) | (with_reducible refine keep_cell (W := u) ?_ ?_) | fail))) (first | (go_at_call 39; (first | (with_reducible refine (H1.out _).mono ?_) | (with_reducible refine (H2.out _).mono ?_)); rintro e y1 ⟨rfl, rfl⟩) | (go_at_call 38; refine (H3.out _ _ _ ?_ ?_).mono ?_; exact keep_drew (rng_alloc (w := u) (cs := [.int .i64 r0, .int .i64 r1]) (t := 3) 0 _ rfl); exact keep_drew (rng_alloc (w := u) (cs := [.int .i64 r0, .int .i64 r1]) (t := 3) 1 _ rfl); rintro e y3 ⟨rfl, rfl⟩))
 all_goals
  go_wp2
  go_ret
  exact ⟨rfl, 1, _, by rw [hu.out, Go.Sort.alloc_eq_grow, Go.Sort.alloc_eq_grow, Go.Sort.alloc_eq_grow, Go.Sort.grow_grow, Go.Sort.grow_grow, Go.Sort.drew_grow]; rfl⟩
end
section
variable (p q : Ru)
set_option maxRecDepth 100000 in
set_option maxHeartbeats 4000000 in
theorem ordU_w (W : World) : Calls Try.prog 37 #[.agg ([Value.bool p.v, .int .i64 p.a, .int .i64 p.t, .int .i64 p.f, .int .i64 p.o] : List Value).toArray, .agg ([Value.bool q.v, .int .i64 q.a, .int .i64 q.t, .int .i64 q.f, .int .i64 q.o] : List Value).toArray] W fun e w' => e = .returned (.int .i64 (cmpO p.a p.f q.a q.f)) ∧ ∃ n os, w' = Go.Sort.grow (W.drewN n) os := by
 have H1 := hid fun (V : World) => Compare_w p.a q.a V
 have H2 := hid fun (V : World) => Compare_w p.f q.f V
 have hO : Hid (cmpO p.a p.f q.a q.f = if cmp1 p.a q.a = 0 then cmp1 p.f q.f else cmp1 p.a q.a) := rfl
 generalize cmp1 p.a q.a = r0 at *
 generalize cmp1 p.f q.f = r1 at *
 obtain ⟨K0, hK0⟩ : ∃ k, cmpO p.a p.f q.a q.f = k := ⟨_, rfl⟩
 rw [hK0] at hO ⊢
 clear hK0
 have H3 := hid fun (g c : Nat) (V : World) (h0 : V.cell? ⟨g, 0, none⟩ = some (.int .i64 r0)) (h1 : V.cell? ⟨g, 1, none⟩ = some (.int .i64 r1)) => (show Calls Try.prog 38 #[.slice (some ⟨g, 0, none⟩) 2 c] V fun e w' => e = .returned (.int .i64 K0) ∧ w' = V from by
  have := Or_w r0 r1 g c h0 h1
  rwa [← hO.out] at this)
 clear hO
 go_enter Try.func37, Try.ntmps37
 go_upto_region 1 with fail
 refine enterR2e (P := fun u => Code.wp _ _ _ _ u) (c0 := [Value.bool p.v, .int .i64 p.a, .int .i64 p.t, .int .i64 p.f, .int .i64 p.o]) (c1 := [Value.bool q.v, .int .i64 q.a, .int .i64 q.t, .int .i64 q.f, .int .i64 q.o]) ?_
 intro u hu s0 s1
 have c0 : u.cell? ⟨W.heap.size, 1, none⟩ = some (.int .i64 p.a) := s0 1 _ rfl
 have c1 : u.cell? ⟨W.heap.size, 3, none⟩ = some (.int .i64 p.f) := s0 3 _ rfl
 have d0 : u.cell? ⟨W.heap.size + 1, 1, none⟩ = some (.int .i64 q.a) := s1 1 _ rfl
 have d1 : u.cell? ⟨W.heap.size + 1, 3, none⟩ = some (.int .i64 q.f) := s1 3 _ rfl
 clear s0 s1
 go_region_held3 (fun w' => w'.cell? ⟨W.heap.size, 1, none⟩ = some (.int .i64 p.a) ∧ w'.cell? ⟨W.heap.size, 3, none⟩ = some (.int .i64 p.f) ∧ w'.cell? ⟨W.heap.size + 1, 1, none⟩ = some (.int .i64 q.a) ∧ w'.cell? ⟨W.heap.size + 1, 3, none⟩ = some (.int .i64 q.f)) (first | ((try dsimp only); repeat' (first | with_reducible assumption | apply And.intro | (with_reducible refine keep_alloc ?_) | (with_reducible refine keep_drew ?_) | (with_reducible refine keep_set (by first | omega | (simp only [World.size_alloc, World.size_setCell, World.size_drew]; done) | (simp only [World.size_alloc, World.size_setCell, World.size_drew]; omega)) ?_) | (with_reducible refine keep_cell (W := u) ?_ ?_) | fail))) (first | (go_at_call 39; (first | (with_reducible refine (H1.out _).mono ?_) | (with_reducible refine (H2.out _).mono ?_)); rintro e y1 ⟨rfl, rfl⟩) | (go_at_call 38; refine (H3.out _ _ _ ?_ ?_).mono ?_; exact keep_drew (rng_alloc (w := u) (cs := [.int .i64 r0, .int .i64 r1]) (t := 3) 0 _ rfl); exact keep_drew (rng_alloc (w := u) (cs := [.int .i64 r0, .int .i64 r1]) (t := 3) 1 _ rfl); rintro e y3 ⟨rfl, rfl⟩))
 all_goals
  go_wp2
  go_ret
  exact ⟨rfl, 1, _, by rw [hu.out, Go.Sort.alloc_eq_grow, Go.Sort.alloc_eq_grow, Go.Sort.alloc_eq_grow, Go.Sort.grow_grow, Go.Sort.grow_grow, Go.Sort.drew_grow]; rfl⟩
end
section
variable (p q : Sp)
set_option maxRecDepth 100000 in
set_option maxHeartbeats 4000000 in
theorem ordS_w (W : World) : Calls Try.prog 60 #[.agg ([Value.int .i64 (p.n : Int), .int .i64 (p.f : Int), .int .i64 (p.o : Int)] : List Value).toArray, .agg ([Value.int .i64 (q.n : Int), .int .i64 (q.f : Int), .int .i64 (q.o : Int)] : List Value).toArray] W fun e w' => e = .returned (.int .i64 (cmpO (p.n : Int) (p.f : Int) (q.n : Int) (q.f : Int))) ∧ ∃ n os, w' = Go.Sort.grow (W.drewN n) os := by
 have H1 := hid fun (V : World) => Compare_w (p.n : Int) (q.n : Int) V
 have H2 := hid fun (V : World) => Compare_w (p.f : Int) (q.f : Int) V
 have hO : Hid (cmpO (p.n : Int) (p.f : Int) (q.n : Int) (q.f : Int) = if cmp1 (p.n : Int) (q.n : Int) = 0 then cmp1 (p.f : Int) (q.f : Int) else cmp1 (p.n : Int) (q.n : Int)) := rfl
 generalize cmp1 (p.n : Int) (q.n : Int) = r0 at *
 generalize cmp1 (p.f : Int) (q.f : Int) = r1 at *
 obtain ⟨K0, hK0⟩ : ∃ k, cmpO (p.n : Int) (p.f : Int) (q.n : Int) (q.f : Int) = k := ⟨_, rfl⟩
 rw [hK0] at hO ⊢
 clear hK0
 have H3 := hid fun (g c : Nat) (V : World) (h0 : V.cell? ⟨g, 0, none⟩ = some (.int .i64 r0)) (h1 : V.cell? ⟨g, 1, none⟩ = some (.int .i64 r1)) => (show Calls Try.prog 38 #[.slice (some ⟨g, 0, none⟩) 2 c] V fun e w' => e = .returned (.int .i64 K0) ∧ w' = V from by
  have := Or_w r0 r1 g c h0 h1
  rwa [← hO.out] at this)
 clear hO
 go_enter Try.func60, Try.ntmps60
 go_upto_region 1 with fail
 refine enterR2e (P := fun u => Code.wp _ _ _ _ u) (c0 := [Value.int .i64 (p.n : Int), .int .i64 (p.f : Int), .int .i64 (p.o : Int)]) (c1 := [Value.int .i64 (q.n : Int), .int .i64 (q.f : Int), .int .i64 (q.o : Int)]) ?_
 intro u hu s0 s1
 have c0 : u.cell? ⟨W.heap.size, 0, none⟩ = some (.int .i64 (p.n : Int)) := s0 0 _ rfl
 have c1 : u.cell? ⟨W.heap.size, 1, none⟩ = some (.int .i64 (p.f : Int)) := s0 1 _ rfl
 have d0 : u.cell? ⟨W.heap.size + 1, 0, none⟩ = some (.int .i64 (q.n : Int)) := s1 0 _ rfl
 have d1 : u.cell? ⟨W.heap.size + 1, 1, none⟩ = some (.int .i64 (q.f : Int)) := s1 1 _ rfl
 clear s0 s1
 go_region_held3 (fun w' => w'.cell? ⟨W.heap.size, 0, none⟩ = some (.int .i64 (p.n : Int)) ∧ w'.cell? ⟨W.heap.size, 1, none⟩ = some (.int .i64 (p.f : Int)) ∧ w'.cell? ⟨W.heap.size + 1, 0, none⟩ = some (.int .i64 (q.n : Int)) ∧ w'.cell? ⟨W.heap.size + 1, 1, none⟩ = some (.int .i64 (q.f : Int))) (first | ((try dsimp only); repeat' (first | with_reducible assumption | apply And.intro | (with_reducible refine keep_alloc ?_) | (with_reducible refine keep_drew ?_) | (with_reducible refine keep_set (by first | omega | (simp only [World.size_alloc, World.size_setCell, World.size_drew]; done) | (simp only [World.size_alloc, World.size_setCell, World.size_drew]; omega)) ?_) | (with_reducible refine keep_cell (W := u) ?_ ?_) | fail))) (first | (go_at_call 39; (first | (with_reducible refine (H1.out _).mono ?_) | (with_reducible refine (H2.out _).mono ?_)); rintro e y1 ⟨rfl, rfl⟩) | (go_at_call 38; refine (H3.out _ _ _ ?_ ?_).mono ?_; exact keep_drew (rng_alloc (w := u) (cs := [.int .i64 r0, .int .i64 r1]) (t := 3) 0 _ rfl); exact keep_drew (rng_alloc (w := u) (cs := [.int .i64 r0, .int .i64 r1]) (t := 3) 1 _ rfl); rintro e y3 ⟨rfl, rfl⟩))
 all_goals
  go_wp2
  go_ret
  exact ⟨rfl, 1, _, by rw [hu.out, Go.Sort.alloc_eq_grow, Go.Sort.alloc_eq_grow, Go.Sort.alloc_eq_grow, Go.Sort.grow_grow, Go.Sort.grow_grow, Go.Sort.drew_grow]; rfl⟩
end
open Go.Sort in
theorem swo_key {α : Type} (cf : α → α → Int) (k0 k1 : α → Int) (h : ∀ a b, cf a b = cmpO (k0 a) (k1 a) (k0 b) (k1 b)) : SWO (Go.Proofs.ltOf cf) := by
 have e : ∀ a b, Go.Proofs.ltOf cf a b = decide (k0 a < k0 b ∨ (k0 a = k0 b ∧ k1 a < k1 b)) := fun a b => by
  unfold Go.Proofs.ltOf
  rw [h, cmpO_eq]
  by_cases h1 : k0 a < k0 b <;> by_cases h2 : k0 b < k0 a <;> by_cases h3 : k1 a < k1 b <;> by_cases h4 : k1 b < k1 a <;> simp [h1, h2, h3, h4] <;> omega
 exact ⟨fun x => by rw [e]; simp, fun x y z h1 h2 => by rw [e] at *; simp at *; omega, fun x y z h1 h2 => by rw [e] at *; simp at *; omega⟩
theorem SoB {w : World} {base : Nat} {v : Value} {l : List (Int × Int)} (h : BdK.Own w base v l) (hsz : l.length ≤ 100000000) :
  Calls Try.prog 52 #[v, .func (.func 53) #[] #[]] w fun e w' => e = .returned (.tuple #[]) ∧ ∃ S, S.Perm l ∧ (S.Pairwise fun a b => ¬ cmpP b a < 0) ∧ BdK.Own w' base v S ∧ w.grownBy w' v.ownBlock := by
 have hk : ∀ a b : (Int × Int), cmpP a b = cmpO ((fun a : Int × Int => a.1) a) ((fun a : Int × Int => a.2) a) ((fun a : Int × Int => a.1) b) ((fun a : Int × Int => a.2) b) := fun a b => by rw [cmpO_eq]; unfold cmpP; first | rfl | (simp only [Int.ofNat_lt])
 exact Knd.sorts BdKo sortBd Try.isAgg79 Try.sizeOf79 cmpP (swo_key _ (fun a : Int × Int => a.1) (fun a : Int × Int => a.2) hk) 53 (enters_of Try.func53 (by kernel_rfl) rfl) (fun p q W => by rw [hk]; exact ordB_w p q W) h (by omega)
theorem SoU {w : World} {base : Nat} {v : Value} {l : List Ru} (h : RuK.Own w base v l) (hsz : l.length ≤ 100000000) :
  Calls Try.prog 36 #[v, .func (.func 37) #[] #[]] w fun e w' => e = .returned (.tuple #[]) ∧ ∃ S, S.Perm l ∧ (S.Pairwise fun a b => ¬ cmpR b a < 0) ∧ RuK.Own w' base v S ∧ w.grownBy w' v.ownBlock := by
 have hk : ∀ a b : Ru, cmpR a b = cmpO ((fun a : Ru => a.a) a) ((fun a : Ru => a.f) a) ((fun a : Ru => a.a) b) ((fun a : Ru => a.f) b) := fun a b => by rw [cmpO_eq]; unfold cmpR; first | rfl | (simp only [Int.ofNat_lt])
 exact Knd.sorts RuKo sortRu Try.isAgg54 Try.sizeOf54 cmpR (swo_key _ (fun a : Ru => a.a) (fun a : Ru => a.f) hk) 37 (enters_of Try.func37 (by kernel_rfl) rfl) (fun p q W => by rw [hk]; exact ordU_w p q W) h (by omega)
theorem SoS {w : World} {base : Nat} {v : Value} {l : List Sp} (h : SpK.Own w base v l) (hsz : l.length ≤ 100000000) :
  Calls Try.prog 59 #[v, .func (.func 60) #[] #[]] w fun e w' => e = .returned (.tuple #[]) ∧ ∃ S, S.Perm l ∧ (S.Pairwise fun a b => ¬ cmpS b a < 0) ∧ SpK.Own w' base v S ∧ w.grownBy w' v.ownBlock := by
 have hk : ∀ a b : Sp, cmpS a b = cmpO ((fun a : Sp => (a.n : Int)) a) ((fun a : Sp => (a.f : Int)) a) ((fun a : Sp => (a.n : Int)) b) ((fun a : Sp => (a.f : Int)) b) := fun a b => by rw [cmpO_eq]; unfold cmpS; first | rfl | (simp only [Int.ofNat_lt])
 exact Knd.sorts SpKo sortSp Try.isAgg99 Try.sizeOf99 cmpS (swo_key _ (fun a : Sp => (a.n : Int)) (fun a : Sp => (a.f : Int)) hk) 60 (enters_of Try.func60 (by kernel_rfl) rfl) (fun p q W => by rw [hk]; exact ordS_w p q W) h (by omega)
end Go.Proofs.Ytjfgklhifhaaoaa
