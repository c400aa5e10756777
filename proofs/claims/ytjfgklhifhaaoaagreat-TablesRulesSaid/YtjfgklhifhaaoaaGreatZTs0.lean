/- Tables: the library's sort of a row that the call owns. Conditions: none beyond the sizes. -/
import Derived.Test.YtjfgklhifhaaoaaGreatZTe1
import Derived.Test.YtjfgklhifhaaoaaGreatZTsL
set_option linter.unusedVariables false
set_option linter.unusedSimpArgs false
namespace Go.Proofs.YtjfgklhifhaaoaaGreat
open Go.RowKit Go.Shelf Go.Lib Go.Sort
section
variable {α : Type} [Inhabited α] {X : Knd α}
theorem Knd.Own.holds (ok : X.Ok) {w : World} {base g n c : Nat} {l : List α} (h : X.Own w base (.slice (some ⟨g, 0, none⟩) n c) l) : HoldsK X.enc X.k w g 0 l.toArray ∧ n = l.length ∧ g < w.heap.size ∧ base ≤ g := by
 rcases h.2 with ⟨h1, _⟩ | ⟨g', cap, cur, hv, hbg, hg, hnc, hmx, hcs, htake⟩
 ·cases h1
 ·injection hv with e1 e2 e3
  injection e1 with e1
  injection e1 with e1
  subst e1 e2
  refine ⟨fun t ht => ?_, rfl, (Array.getElem?_eq_some_iff.1 hg).1, hbg⟩
  rw [size_flatK] at ht
  have hts : t < l.length * X.k := by simpa using ht
  have hk : t / X.k < l.length := Nat.div_lt_of_lt_mul (by rw [Nat.mul_comm]; exact hts)
  have hm : t % X.k < X.k := Nat.mod_lt _ ok.k0
  rw [get_flatK _ _ _ _ ht]
  have e : l.toArray[t / X.k]! = l[t / X.k] := by simp [hk]
  rw [e]
  have hlen := ok.len l[t / X.k]
  have hget : (X.enc l[t / X.k])[t % X.k]? = some ((X.enc l[t / X.k])[t % X.k]!) := by
   rw [List.getElem?_eq_getElem (by omega), getElem!_pos (X.enc l[t / X.k]) (t % X.k) (by omega)]
  have hf := Knd.flat_get ok l (t / X.k) (t % X.k) hk hm
  rw [hget, Nat.div_add_mod' t X.k] at hf
  refine ⟨?_, by simp [World.frozen?, hg]⟩
  have := World.ownsRow.cells h (g := g) rfl t _ hf
  rw [add_plain] at this
  exact this
theorem Knd.Own.sorted (ok : X.Ok) {w : World} {base g n c m : Nat} {l L : List α} {os : Array Obj} (h : X.Own w base (.slice (some ⟨g, 0, none⟩) n c) l) (hl : L.length = l.length) : X.Own (sortWorldK X.enc X.k w g 0 m L.toArray os) base (.slice (some ⟨g, 0, none⟩) n c) L ∧ w.grownBy (sortWorldK X.enc X.k w g 0 m L.toArray os) (some g) := by
 obtain ⟨hH, hn, hlt, hbg⟩ := h.holds ok
 have hH2 : HoldsK X.enc X.k (sortWorldK X.enc X.k w g 0 m L.toArray os) g 0 L.toArray := holdsK_grow X.enc X.k (putRowK X.enc X.k (Sort.ahead w m) g 0 L.toArray) os g 0 L.toArray (by simp [size_putRowK, Sort.ahead]; exact hlt) (holdsK_putRowK _ _ _ _ _ l.toArray L.toArray (holdsK_ahead _ _ _ m _ _ _ hH) (by simpa using hl))
 rcases h.2 with ⟨h1, _⟩ | ⟨g', cap, cur, hv, hbg, hg, hnc, hmx, hcs, htake⟩
 ·cases h1
 ·injection hv with e1 e2 e3
  injection e1 with e1
  injection e1 with e1
  subst e1 e3
  have hblk : (sortWorldK X.enc X.k w g 0 m L.toArray os).heap[g]? = some (.cells (putCells id 0 (flatK X.enc X.k L.toArray) cur) X.E (0, 0)) := by
   simp only [sortWorldK, grow, putRowK, putRow, mapBlock, Sort.ahead]
   rw [Array.getElem?_append_left (by simpa using hlt), Array.getElem?_modify, if_pos rfl, hg]
   rfl
  refine ⟨⟨by rw [Knd.flat_len ok], .inr ⟨g, c, _, by rw [hl, ← e2], hbg, hblk, by omega, hmx, by simp [putCells]; exact hcs, ?_⟩⟩, ⟨rfl, rfl, rfl, by simp [sortWorldK, grow, putRowK, putRow, mapBlock, Sort.ahead], fun i hi hne => ?_⟩⟩
  ·apply List.ext_getElem
   ·rw [Knd.flat_len ok, List.length_take, Array.length_toList]
    simp only [putCells, Array.length_toList, Array.size_mapIdx, hcs]
    have := Nat.mul_le_mul_right X.k hnc
    simp only [List.size_toArray]
    rw [hl]; omega
   ·intro t h1 h2
    rw [Knd.flat_len ok] at h2
    have hk : t / X.k < L.length := Nat.div_lt_of_lt_mul (by rw [Nat.mul_comm]; exact h2)
    have hm : t % X.k < X.k := Nat.mod_lt _ ok.k0
    have hc := (hH2 t (by rw [size_flatK]; simpa using h2)).1
    rw [Nat.zero_add, cell_of_row _ g t _ X.E (0, 0) hblk, get_flatK _ _ _ _ (by simpa using h2)] at hc
    have e : L.toArray[t / X.k]! = L[t / X.k] := by simp [hk]
    rw [e] at hc
    have hlen := ok.len L[t / X.k]
    have hf := Knd.flat_get ok L (t / X.k) (t % X.k) hk hm
    rw [List.getElem?_eq_getElem (show t % X.k < (X.enc L[t / X.k]).length by omega), Nat.div_add_mod' t X.k] at hf
    rw [getElem!_pos (X.enc L[t / X.k]) (t % X.k) (show t % X.k < (X.enc L[t / X.k]).length by omega)] at hc
    simp only [List.getElem_take, Array.getElem_toList]
    have a1 := (Array.getElem?_eq_some_iff.1 hc).2
    have a2 := (List.getElem?_eq_some_iff.1 hf).2
    rw [a2]
    exact a1
  ·simp only [sortWorldK, grow, putRowK, putRow, mapBlock, Sort.ahead]
   rw [Array.getElem?_append_left (by simpa using hi), Array.getElem?_modify, if_neg (fun e => hne (by rw [e]))]
/-- a sorted permutation, in plain lists -/
theorem perm_list {l : List α} {d : Array α} (h : PermIn 0 l.toArray.size l.toArray d) : d.toList.Perm l := by
 obtain ⟨h1, _, h2⟩ := h
 have e1 : d.extract 0 l.toArray.size = d := by rw [← h1]; exact Array.extract_size
 rw [e1, Array.extract_size] at h2
 exact h2
theorem sorted_list {d : Array α} {lt : α → α → Bool} {n : Nat} (h : SortedIn lt 0 n d) (hn : d.size = n) : d.toList.Pairwise fun a b => lt b a = false := by
 rw [List.pairwise_iff_getElem]
 intro i j hi hj hij
 have := h i j (Nat.zero_le _) hij (by simpa [hn] using hj)
 rw [getElem!_pos d j (by simpa using hj), getElem!_pos d i (by simpa using hi)] at this
 simpa using this
/-- slices.SortFunc of a row that the call owns -/
theorem Knd.sorts {ρ : Go.Shelf.Ren} (ok : X.Ok) (L : SlLaysF0.n6 Tryz.prog ρ) (aE : ∀ w, (isAgg (ρ.t 24)).run Tryz.prog w = .ok true w) (zE : ∀ w, (Go.sizeOf (ρ.t 24)).run Tryz.prog w = .ok X.k w) (cf : α → α → Int) (hO : SWO (ltOf cf)) (g : Nat)
  (eg : ∀ args w, (callFunc g args).run Tryz.prog w = .ok (.enter g args) w) (hcmp : ∀ (p q : α) (W : World), Calls Tryz.prog g (#[.agg (X.enc p).toArray, .agg (X.enc q).toArray] ++ #[]) W fun e w' => e = .returned (.int .i64 (cf p q)) ∧ ∃ n os, w' = Go.Sort.grow (W.drewN n) os)
  {w : World} {base : Nat} {v : Value} {l : List α} (h : X.Own w base v l) (hsz : l.length < 4611686018427387904) :
  Calls Tryz.prog (ρ.f 6) #[v, .func (.func g) #[] #[]] w fun e w' => e = .returned (.tuple #[]) ∧ ∃ S, S.Perm l ∧ (S.Pairwise fun a b => ¬ cf b a < 0) ∧ X.Own w' base v S ∧ w.grownBy w' v.ownBlock := by
 rcases h.2 with ⟨rfl, h0⟩ | ⟨g0, cap, cur, rfl, hbg, hg, _⟩
 ·obtain rfl : l = [] := List.eq_nil_of_length_eq_zero h0
  refine (AnyF.slices_SortFunc_none L none 0 (.func (.func g) #[] #[]) w).mono ?_
  rintro e w' ⟨rfl, rfl⟩
  exact ⟨rfl, [], List.Perm.nil, List.Pairwise.nil, h, World.grownBy.refl _ _⟩
 ·obtain ⟨hH, hn, hlt, _⟩ := h.holds ok
  have hs := AnyQ.slices_SortFunc L X.k aE zE X.enc ok.len ok.one cf hO g #[] g0 0 cap l.toArray w eg (fun _ _ _ _ x y => hcmp x y _) hH hlt (by simpa using hsz)
  have es : l.toArray.size = l.length := by simp
  rw [es] at hs
  refine hs.mono ?_
  rintro e w' ⟨rfl, d', n, os, hP, hS, rfl⟩
  rw [← es] at hP hS
  have h1 := perm_list hP
  have h2 := sorted_list hS hP.1
  obtain ⟨h3, h4⟩ := Knd.Own.sorted (m := n) (os := os) ok h (show d'.toList.length = l.length from h1.length_eq)
  refine ⟨rfl, d'.toList, h1, h2.imp fun hab => ?_, ?_, ?_⟩
  ·unfold ltOf at hab
   simpa using hab
  ·simpa using h3
  ·simpa [Value.ownBlock] using h4
end
end Go.Proofs.YtjfgklhifhaaoaaGreat
