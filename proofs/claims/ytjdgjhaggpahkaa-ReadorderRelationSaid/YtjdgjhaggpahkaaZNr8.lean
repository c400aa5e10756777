/- Reading order: moving all boxes changes nothing, in plain lists. Conditions: valid boxes. -/
import Derived.Test.YtjdgjhaggpahkaaZNr7
set_option linter.unusedVariables false
set_option linter.unusedSimpArgs false
namespace Go.Proofs.Ytjdgjhaggpahkaa
def shB (dx dy : Int) (b : Bx) : Bx := ⟨b.x + dx, b.y + dy, b.w, b.h⟩
/-- m is l moved -/
structure Shf (l m : List Bx) (dx dy : Int) : Prop where
 len : m.length = l.length
 at_ : ∀ i, i < l.length → m.getD i default = shB dx dy (l.getD i default)
theorem shf_map (l : List Bx) (dx dy : Int) : Shf l (l.map (shB dx dy)) dx dy := ⟨by simp, fun i hi => by simp [hi]⟩
variable {l m : List Bx} {dx dy gap : Int}
theorem befB_sh {a b : Bx} (ha : okB a = true) (hb : okB b = true) (ha2 : okB (shB dx dy a) = true) (hb2 : okB (shB dx dy b) = true) : befB (shB dx dy a) (shB dx dy b) = befB a b := by
 unfold befB
 rw [ha, hb, ha2, hb2]
 unfold shB
 dsimp only
 by_cases c : a.y < b.y + b.h ∧ b.y < a.y + a.h
 ·rw [if_pos (show (true && true) = true from rfl), if_pos (show (true && true) = true from rfl), if_pos (by omega), if_pos c]
  apply decide_eq_decide.2
  omega
 ·rw [if_pos (show (true && true) = true from rfl), if_pos (show (true && true) = true from rfl), if_neg (by omega), if_neg c]
  apply decide_eq_decide.2
  omega
theorem sortB_congr (hl : m.length = l.length) (h : ∀ i k, i < l.length → k < l.length → befB (m.getD k default) (m.getD i default) = befB (l.getD k default) (l.getD i default)) : ∀ (f : Nat) (out : List Nat), sortB m f out = sortB l f out
 | 0, out => rfl
 | f + 1, out => by
  have hf : ∀ i, i < l.length → freeB m out i = freeB l out i := fun i hi => by
   unfold freeB
   rw [hl]
   rw [Bool.eq_iff_iff, List.all_eq_true, List.all_eq_true]
   exact forall_congr' fun k => forall_congr' fun hk => by rw [h i k hi (List.mem_range.1 hk)]
  have hn : nextB m out = nextB l out := by
   unfold nextB
   rw [hl]
   have : ∀ (L : List Nat), (∀ i ∈ L, i < l.length) → L.find? (fun i => !out.contains i && freeB m out i) = L.find? (fun i => !out.contains i && freeB l out i) := fun L => by
    induction L with
    | nil => intro _; rfl
    | cons a L ih =>
     intro hL
     rw [List.find?_cons, List.find?_cons, hf a (hL a (by simp)), ih fun i hi => hL i (by simp [hi])]
   exact this _ fun i hi => List.mem_range.1 hi
  unfold sortB
  rw [hn]
  split
  ·rfl
  ·exact sortB_congr hl h f _
theorem ok_at (h : ∀ b ∈ l, okB b = true) {i : Nat} (hi : i < l.length) : okB (l.getD i default) = true := h _ (by simp [hi])
theorem sortE_sh (hs : Shf l m dx dy) (h1 : chkB l 0 = 0) (h2 : chkB m 0 = 0) : sortE m = sortE l := by
 obtain ⟨_, _, _, o1⟩ := chk0 h1
 obtain ⟨_, _, _, o2⟩ := chk0 h2
 rw [sortE_ok h1, sortE_ok h2, hs.len]
 rw [sortB_congr hs.len fun i k hi hk => ?_]
 have a1 := ok_at o1 hi
 have a2 := ok_at o1 hk
 have b1 := ok_at o2 (i := i) (by rw [hs.len]; exact hi)
 have b2 := ok_at o2 (i := k) (by rw [hs.len]; exact hk)
 rw [hs.at_ i hi] at b1 ⊢
 rw [hs.at_ k hk] at b2 ⊢
 exact befB_sh a2 a1 b2 b1
theorem abvB_sh (hs : Shf l m dx dy) {i k : Nat} (hi : i < l.length) (hk : k < l.length) : abvB m i k = abvB l i k := by
 unfold abvB
 rw [hs.at_ i hi, hs.at_ k hk]
 unfold shB
 apply decide_eq_decide.2
 dsimp only
 omega
theorem bX_sh (hs : Shf l m dx dy) {i : Nat} (hi : i < l.length) : bX m i = bX l i + dx ∧ bR m i = bR l i + dx ∧ bY m i = bY l i + dy ∧ bB m i = bB l i + dy := by
 unfold bX bR bY bB
 rw [hs.at_ i hi]
 unfold shB
 dsimp only
 omega
theorem nearB_sh (hs : Shf l m dx dy) {i k : Nat} (hi : i < l.length) (hk : k < l.length) : nearB m gap i k = nearB l gap i k := by
 unfold nearB
 obtain ⟨a1, a2, _⟩ := bX_sh hs hi
 obtain ⟨b1, b2, _⟩ := bX_sh hs hk
 rw [a1, a2, b1, b2]
 by_cases c : bX l k < bX l i
 ·rw [if_pos (by omega), if_pos c]
  exact decide_eq_decide.2 (by omega)
 ·rw [if_neg (by omega), if_neg c]
  exact decide_eq_decide.2 (by omega)
theorem colC_sh (hs : Shf l m dx dy) (h1 : chkB l gap = 0) (h2 : chkB m gap = 0) : colC m gap = colC l gap := by
 obtain ⟨q1, q2⟩ := Classical.choose_spec (srt_some l)
 have hS := colG_split l gap q1 q2
 rw [colC_of h1 hS]
 generalize colG (numS l gap (Classical.choose (srt_some l))).c (numS l gap (Classical.choose (srt_some l))).f (dwnB l) = Ls at *
 have hm : ∀ C ∈ Ls, ∀ x ∈ C, x < l.length := fun C hC x hx => List.mem_range.1 (hS.pm.mem_iff.1 (List.mem_flatten.2 ⟨C, hC, hx⟩))
 refine colC_of h2 ⟨hS.ne, fun C hC p h1 h2 => ?_, fun C hC => ?_, ?_, by rw [hs.len]; exact hS.pm⟩
 ·obtain ⟨a, ha, b, hb, p1, p2, r⟩ := hS.cn C hC p h1 h2
  exact ⟨a, ha, b, hb, p1, p2, by rw [nearB_sh hs (hm C hC a ha) (hm C hC b hb), nearB_sh hs (hm C hC b hb) (hm C hC a ha)]; exact r⟩
 ·refine List.Pairwise.imp_of_mem (fun {a b} ha hb h => ?_) (hS.srt C hC)
  rw [abvB_sh hs (hm C hC b hb) (hm C hC a ha)]; exact h
 ·refine List.Pairwise.imp_of_mem (fun {C D} hC hD h x hx y hy => ?_) hS.sep
  have := h x hx y hy
  have e1 := bX_sh hs (hm C hC x hx)
  have e2 := bX_sh hs (hm D hD y hy)
  omega
theorem dwnB_sh (hs : Shf l m dx dy) : dwnB m = dwnB l := by
 refine abv_unique m ((dwnB_perm m).trans (by rw [hs.len]; exact (dwnB_perm l).symm)) (dwnB_sorted m) ?_
 refine List.Pairwise.imp_of_mem (fun {a b} ha hb h => ?_) (dwnB_sorted l)
 rw [abvB_sh hs (dwnB_lt.1 hb) (dwnB_lt.1 ha)]
 exact h
theorem parS_sh (hs : Shf l m dx dy) : ∀ k, k ≤ (dwnB l).length → (parS m gap ((dwnB l).take k)).L = (parS l gap ((dwnB l).take k)).L ∧ ((parS l gap ((dwnB l).take k)).L.length = 0 ∨ (parS m gap ((dwnB l).take k)).low = (parS l gap ((dwnB l).take k)).low + dy)
 | 0, _ => ⟨rfl, .inl rfl⟩
 | k + 1, hk => by
  obtain ⟨h1, h2⟩ := parS_sh hs k (by omega)
  have hi : (dwnB l)[k] < l.length := dwnB_lt.1 (List.getElem_mem (by omega))
  rw [List.take_succ_eq_append_getElem (by omega), parS_snoc, parS_snoc]
  generalize (dwnB l)[k] = i at *
  generalize parS m gap ((dwnB l).take k) = s at *
  generalize parS l gap ((dwnB l).take k) = t at *
  unfold parStep
  rw [hs.at_ i hi, h1]
  unfold shB
  dsimp only
  by_cases c : t.L.length = 0 ∨ t.low + gap < (l.getD i default).y
  ·rw [if_pos c, if_pos (by omega)]
   exact ⟨rfl, .inr (by dsimp only; omega)⟩
  ·rw [if_neg c, if_neg (by omega)]
   exact ⟨rfl, .inr (by dsimp only; omega)⟩
theorem parE_sh (hs : Shf l m dx dy) (h1 : chkB l gap = 0) (h2 : chkB m gap = 0) : parE m gap = parE l gap := by
 unfold parE
 rw [if_pos h1, if_pos h2, dwnB_sh hs]
 have := (parS_sh (gap := gap) hs _ (Nat.le_refl _)).1
 rw [List.take_length] at this
 rw [this]
theorem chk_sm {l : List Bx} {gap : Int} (h : l.length ≤ 60) : chkB l gap = 0 ∨ chkB l gap = 3 := by
 unfold chkB
 rw [if_neg (by omega)]
 split
 ·exact .inr rfl
 ·exact .inl rfl
theorem chk_iff {l : List Bx} {gap : Int} (h : l.length ≤ 60) : chkB l gap = 0 ↔ 0 ≤ gap ∧ gap ≤ 4096 ∧ ∀ b ∈ l, okB b = true := by
 constructor
 ·intro h0
  exact (chk0 h0).2
 ·rintro ⟨h1, h2, h3⟩
  unfold chkB
  rw [if_neg (by omega), if_neg]
  rintro (q | q | q)
  ·omega
  ·omega
  ·obtain ⟨b, hb, hq⟩ := List.any_eq_true.1 q
   rw [h3 b hb] at hq
   cases hq
/-- what the statement compares -/
theorem moves (hs : Shf l m dx dy) (hn : l.length ≤ 60) (hl : ∀ b ∈ l, -4096 ≤ b.x ∧ b.x ≤ 4096 ∧ -4096 ≤ b.y ∧ b.y ≤ 4096) (h1 : (sortE m).2 ≠ 3) (h2 : chkB m gap ≠ 3) :
  sortE l = sortE m ∧ colC l gap = colC m gap ∧ chkB l gap = 0 ∧ chkB m gap = 0 ∧ parE l gap = parE m gap := by
 have hm : m.length ≤ 60 := by rw [hs.len]; exact hn
 have c0 : chkB m 0 = 0 := by
  rcases chk_sm (gap := 0) hm with e | e
  ·exact e
  ·rw [sortE_bad (by omega), e] at h1
   exact absurd rfl h1
 have cg : chkB m gap = 0 := by
  rcases chk_sm (gap := gap) hm with e | e
  ·exact e
  ·exact absurd e h2
 obtain ⟨g1, g2, ok⟩ := (chk_iff hm).1 cg
 have okl : ∀ b ∈ l, okB b = true := fun b hb => by
  obtain ⟨i, hi, e⟩ := List.mem_iff_getElem.1 hb
  have h3 := ok_at ok (i := i) (by rw [hs.len]; exact hi)
  rw [hs.at_ i hi] at h3
  have e2 : l.getD i default = b := by simp [hi, e]
  rw [e2] at h3
  have h4 := okB_b h3
  have h5 := hl b hb
  unfold shB at h4
  dsimp only at h4
  exact okB_iff.2 (by omega)
 have l0 := (chk_iff (gap := 0) hn).2 ⟨by omega, by omega, okl⟩
 have lg := (chk_iff (gap := gap) hn).2 ⟨g1, g2, okl⟩
 exact ⟨(sortE_sh hs l0 c0).symm, (colC_sh hs lg cg).symm, lg, cg, (parE_sh hs lg cg).symm⟩
end Go.Proofs.Ytjdgjhaggpahkaa
