/- Geometry: the reference's next and hull, and Hull in the package and in the reference. Conditions: none. -/
import Derived.Test.YtglailcfgcdagaaZGG
set_option linter.unusedVariables false
set_option linter.unusedSimpArgs false
namespace Go.Proofs.Ytglailcfgcdagaa
open Go.RowKit Big
def RetRE (w : World) (q : List (Int × Int) × Int) (e : Ending) (w' : World) : Prop := ∃ v, e = .returned (.tuple #[v, .int .i64 q.2]) ∧ OwnP w' w.heap.size v q.1 ∧ Below w.heap.size w w'
theorem chkP_zero {l : List (Int × Int)} (h : chkP l = 0) : l.length ≤ 4096 ∧ ∀ p ∈ l, inP p = true := by
 unfold chkP at h
 split at h
 ·omega
 ·split at h
  ·rename_i h2
   exact ⟨by omega, fun p hp => List.all_eq_true.1 h2 p hp⟩
  ·omega
/-- best in its box -/
structure BstB (w : World) (g : Nat) (q : Int × Int) (wr : World) : Prop where
 c0 : wr.cell? ⟨g, 0, none⟩ = some (.int .i64 q.1)
 c1 : wr.cell? ⟨g, 1, none⟩ = some (.int .i64 q.2)
 z : Zn wr g
 b : Below w.heap.size w wr
 hg : w.heap.size ≤ g
theorem BstB.below {w wr w1 : World} {g : Nat} {q : Int × Int} (h : BstB w g q wr) (hb : Below wr.heap.size wr w1) : BstB w g q w1 := ⟨keep_cell hb h.c0, keep_cell hb h.c1, h.z.below hb, bel_step h.b hb, h.hg⟩
theorem BstB.set {w wr : World} {g : Nat} {q : Int × Int} (h : BstB w g q wr) (p : Int × Int) : BstB w g p ((wr.setCell ⟨g, 0, none⟩ (.int .i64 p.1)).setCell ⟨g, 1, none⟩ (.int .i64 p.2)) := by
 have h1 : (wr.setCell ⟨g, 0, none⟩ (.int .i64 p.1)).cell? ⟨g, 1, none⟩ = _ := (cell_set_ne (by omega)).trans h.c1
 exact ⟨(cell_set_ne (by omega)).trans (World.cell?_setCell_same _ _ _ h.c0), World.cell?_setCell_same _ _ _ h1, h.z.set_.set_, below_set (below_set h.b h.hg _ _) h.hg _ _, h.hg⟩
structure NxF (w : World) (gb : Nat) (p q : Int × Int) (wr : World) : Prop where
 s : BstB w gb q wr
 f0 : wr.cell? ⟨w.heap.size, 0, none⟩ = some (.int .i64 p.1)
 f1 : wr.cell? ⟨w.heap.size, 1, none⟩ = some (.int .i64 p.2)
 r0 : wr.cell? ⟨w.heap.size + 1, 0, none⟩ = some (.int .i64 0)
 r1 : wr.cell? ⟨w.heap.size + 1, 1, none⟩ = some (.int .i64 0)
 zk : Zn wr (w.heap.size + 1)
 n1 : gb ≠ w.heap.size
 n2 : gb ≠ w.heap.size + 1
theorem NxF.below {w wr w1 : World} {gb : Nat} {p q : Int × Int} (h : NxF w gb p q wr) (hb : Below wr.heap.size wr w1) : NxF w gb p q w1 :=
 ⟨h.s.below hb, keep_cell hb h.f0, keep_cell hb h.f1, keep_cell hb h.r0, keep_cell hb h.r1, h.zk.below hb, h.n1, h.n2⟩
theorem NxF.set {w wr : World} {gb : Nat} {p q : Int × Int} (h : NxF w gb p q wr) (s : Int × Int) : NxF w gb p s ((wr.setCell ⟨gb, 0, none⟩ (.int .i64 s.1)).setCell ⟨gb, 1, none⟩ (.int .i64 s.2)) :=
 ⟨h.s.set s, keep_set h.n1 (keep_set h.n1 h.f0), keep_set h.n1 (keep_set h.n1 h.f1), keep_set h.n2 (keep_set h.n2 h.r0), keep_set h.n2 (keep_set h.n2 h.r1), h.zk.set_.set_, h.n1, h.n2⟩
end Go.Proofs.Ytglailcfgcdagaa
