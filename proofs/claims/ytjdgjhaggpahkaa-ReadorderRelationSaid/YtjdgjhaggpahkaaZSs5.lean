/- Reading order: the stable sort of a row of indexes. Conditions: none beyond the sizes. -/
import Derived.Test.YtjdgjhaggpahkaaZSs4
import Derived.Test.YtjdgjhaggpahkaaZRl1
set_option linter.unusedVariables false
set_option linter.unusedSimpArgs false
namespace Go.Proofs.Ytjdgjhaggpahkaa
open Go.RowKit Go.Deep Go.Shelf Go.Lib Go.Sort
section
variable {α : Type} [Inhabited α] {lt : α → α → Bool}
/-- every run of k places is sorted -/
def Blks (lt : α → α → Bool) (k n : Nat) (d : Array α) : Prop := ∀ s i j, k ∣ s → s ≤ i → i < j → j < s + k → j < n → lt d[j]! d[i]! = false
/-- the runs that begin below a are sorted -/
def Blk1 (lt : α → α → Bool) (k n a : Nat) (d : Array α) : Prop := ∀ s i j, k ∣ s → s < a → s ≤ i → i < j → j < s + k → j < n → lt d[j]! d[i]! = false
/-- the runs of k that begin at a or later are sorted -/
def Blk2 (lt : α → α → Bool) (k n a : Nat) (d : Array α) : Prop := ∀ s i j, k ∣ s → a ≤ s → s ≤ i → i < j → j < s + k → j < n → lt d[j]! d[i]! = false
theorem dvd_lt {k s a : Nat} (h1 : k ∣ s) (h2 : k ∣ a) (h : s < a) : s + k ≤ a := by
 obtain ⟨x, rfl⟩ := h1
 obtain ⟨y, rfl⟩ := h2
 have : x < y := Nat.lt_of_mul_lt_mul_left h
 calc k * x + k = k * (x + 1) := by rw [Nat.mul_succ]
  _ ≤ k * y := Nat.mul_le_mul_left k this
theorem Blks.whole {k n : Nat} {d : Array α} (h : Blks lt k n d) (hk : n ≤ k) : SortedIn lt 0 n d := fun i j h1 h2 h3 => h 0 i j (Nat.dvd_zero k) (by omega) h2 (by omega) h3
theorem Blk1.step {k n a b : Nat} {d d' : Array α} (h : Blk1 lt k n a d) (hk : k ∣ a) (hb : b = a + k) (hn : b ≤ n) (p : PermIn a b d d') (s : SortedIn lt a b d') : Blk1 lt k n b d' := fun x i j h1 h2 h3 h4 h5 h6 => by
 by_cases e : x = a
 ·subst e; exact s i j h3 h4 (by omega)
 ·have hxa : x < a := by
   rcases Nat.lt_or_ge x a with h | h
   ·exact h
   ·have := dvd_lt hk h1 (by omega); omega
  have := dvd_lt h1 hk hxa
  rw [p.2.1 i (.inl (by omega)), p.2.1 j (.inl (by omega))]
  exact h x i j h1 hxa h3 h4 h5 h6
theorem Blk1.last {k n a : Nat} {d d' : Array α} (h : Blk1 lt k n a d) (hk : k ∣ a) (hn : n < a + k) (p : PermIn a n d d') (s : SortedIn lt a n d') : Blks lt k n d' := fun x i j h1 h3 h4 h5 h6 => by
 by_cases hxa : x < a
 ·have := dvd_lt h1 hk hxa
  rw [p.2.1 i (.inl (by omega)), p.2.1 j (.inl (by omega))]
  exact h x i j h1 hxa h3 h4 h5 h6
 ·exact s i j (by omega) h4 h6
theorem Blk2.step {k n a b : Nat} {d d' : Array α} (h : Blk2 lt k n a d) (hab : a ≤ b) (p : PermIn a b d d') : Blk2 lt k n b d' := fun x i j h1 h2 h3 h4 h5 h6 => by
 rw [p.2.1 i (.inr (by omega)), p.2.1 j (.inr (by omega))]
 exact h x i j h1 (by omega) h3 h4 h5 h6
theorem Blk2.lo {k n a b : Nat} {d : Array α} (h : Blk2 lt k n a d) (hk : k ∣ a) (h1 : b ≤ a + k) (h2 : b ≤ n) : SortedIn lt a b d := fun i j q1 q2 q3 => h a i j hk (Nat.le_refl _) q1 q2 (by omega) (by omega)
theorem Blk2.hi {k n a b : Nat} {d : Array α} (h : Blk2 lt k n a d) (hk : k ∣ a) (h1 : b ≤ a + k + k) (h2 : b ≤ n) : SortedIn lt (a + k) b d := fun i j q1 q2 q3 => h (a + k) i j (Nat.dvd_add hk (Nat.dvd_refl k)) (by omega) q1 q2 (by omega) (by omega)
theorem Blk1.last2 {k n a : Nat} {d : Array α} (hk0 : 0 < k) (h : Blk1 lt (2 * k) n a d) (hk : 2 * k ∣ a) (h2 : Blk2 lt k n a d) (hn : n ≤ a + k) : Blks lt (2 * k) n d :=
 h.last hk (by omega) (permIn_refl _ _ _) (h2.lo (Nat.dvd_trans ⟨2, by omega⟩ hk) hn (Nat.le_refl _))
end
section
variable {α : Type} [Inhabited α] (enc : α → Value) (blk off cap : Nat) (d0 : Array α) (w0 : World) (cf : α → α → Int) (g : Nat) (cb : Array Value)
theorem symMerge_ok (hO : SWO (ltOf cf)) (eg : ∀ args w, (callFunc g args).run Try.prog w = .ok (.enter g args) w) (hcmp : CmpLays1 Try.prog g cb enc cf blk off d0.size w0) (R : Row1 enc w0 blk off d0) (hsz : d0.size < 4611686018427387904) :
  ∀ (K a m b : Nat), b - a < K → SymOK enc blk off cap d0 w0 cf g cb a m b
 | 0, a, m, b, h => by omega
 | K + 1, a, m, b, h => by
  by_cases h1 : m = a + 1
  ·exact fun d w hs S ham hmb hb hU hV => sym1 enc blk off cap d0 w0 cf g cb hO eg hcmp R d w a m b hs S h1 hmb hb hsz hV
  ·by_cases h2 : b = m + 1
   ·exact fun d w hs S ham hmb hb hU hV => sym2 enc blk off cap d0 w0 cf g cb hO eg hcmp R d w a m b hs S (by omega) h2 hb hsz hU
   ·by_cases h3 : a + 1 < m ∧ m + 1 < b
    ·exact sym3 enc blk off cap d0 w0 cf g cb hO eg hcmp R hsz a m b h3.1 h3.2 (fun x y z hxyz => symMerge_ok hO eg hcmp R hsz K x y z (by omega))
    ·exact fun d w hs S ham hmb => by omega
theorem ins_s (hO : SWO (ltOf cf)) (eg : ∀ args w, (callFunc g args).run Try.prog w = .ok (.enter g args) w) (hcmp : CmpLays1 Try.prog g cb enc cf blk off d0.size w0) (R : Row1 enc w0 blk off d0) (hsz : d0.size < 4611686018427387904)
  (d : Array α) (w : World) (a b : Nat) (hs : d.size = d0.size) (S : SW enc w0 blk off d w) (hab : a ≤ b) (hb : b ≤ d.size) :
  Calls Try.prog 51 #[.slice (some ⟨blk, off, none⟩) d0.size cap, .int .i64 (a : Int), .int .i64 (b : Int), .func (.func g) #[] cb] w fun e w' => e = .returned (.tuple #[]) ∧ ∃ d', Mrg enc (ltOf cf) w0 blk off d a b d' w' := by
 have L : SlLaysF.n20 Try.prog sortInt_ren := { sortInt with }
 have h := Any.insertionSortCmpFunc_s L enc cf g cb blk off cap a b d0 d w0 w eg hcmp R hs.symm S hab hb (by omega)
 rw [hs] at h
 refine Calls.mono h ?_
 rintro e w' ⟨rfl, hw⟩
 have hp := insertionSort_holds (lt := ltOf cf) hO d a b hab hb
 exact ⟨rfl, _, hp.1.1, hp.1, hp.2, hw⟩
set_option maxRecDepth 100000 in
set_option maxHeartbeats 16000000 in
theorem stable_s (hO : SWO (ltOf cf)) (eg : ∀ args w, (callFunc g args).run Try.prog w = .ok (.enter g args) w) (hcmp : CmpLays1 Try.prog g cb enc cf blk off d0.size w0) (R : Row1 enc w0 blk off d0) (n : Nat) (hn : d0.size = n) (hsz : n ≤ 1000000) :
  Calls Try.prog 47 #[.slice (some ⟨blk, off, none⟩) n cap, .int .i64 (n : Int), .func (.func g) #[] cb] w0 fun e w' => e = .returned (.tuple #[]) ∧ ∃ d', Mrg enc (ltOf cf) w0 blk off d0 0 n d' w' := by
 have S0 := hid (SW.start R.hH)
 have HI := hid fun (d : Array α) (w : World) (a b : Nat) (hs : d.size = d0.size) (S : SW enc w0 blk off d w) (hab : a ≤ b) (hb : b ≤ d.size) => ins_s enc blk off cap d0 w0 cf g cb hO eg hcmp R (by omega) d w a b hs S hab hb
 have HM := hid fun (a m b : Nat) => symMerge_ok enc blk off cap d0 w0 cf g cb hO eg hcmp R (by omega) (b - a + 1) a m b (by omega)
 unfold SymOK at HM
 rw [hn] at HI HM
 clear hcmp R
 go_enter Try.func47, Try.ntmps47
 go_wp2
 go_loopw [7, 8] (fun s7 s8 wr => ∃ (a b : Nat) (dk : Array α), s7 = .int .i64 (a : Int) ∧ s8 = .int .i64 (b : Int) ∧ b = a + 20 ∧ a ≤ n ∧ Hid (20 ∣ a) ∧ dk.size = n ∧ Hid (PermIn 0 n d0 dk) ∧ Hid (Blk1 (ltOf cf) 20 n a dk) ∧ Hid (SW enc w0 blk off dk wr)) (fun s7 s8 _ => n + 40 - (intOf s8).toNat)
 case atStart => exact ⟨0, 20, d0, rfl, rfl, rfl, by omega, Nat.dvd_zero _, hn, permIn_refl _ _ _, fun s i j _ h => by omega, S0⟩
 case round =>
  clear S0
  obtain ⟨a, b, dk, rfl, rfl, hab, han, h20, hk, hP, hB, SK⟩ := hrel
  by_cases hbn : b ≤ n
  ·have hbz : (b : Int) ≤ (n : Int) := by omega
   have hC := hid (HI.out dk wr a b hk SK.out (by omega) (by omega))
   obtain ⟨b2, hb2⟩ : ∃ z, z = b + 20 := ⟨_, rfl⟩
   have e1 : IntKind.i64.wrap ((b : Int) + 20) = (b2 : Int) := by rw [IntKind.wrap_i64]; omega
   have h202 := hid (show 20 ∣ b from hab ▸ Nat.dvd_add h20.out (Nat.dvd_refl 20))
   have hst := hid fun (d' : Array α) (p : PermIn a b dk d') (s : SortedIn (ltOf cf) a b d') => hB.out.step h20.out hab hbn p s
   have hms : n + 40 - b2 < n + 40 - b := by omega
   replace hab := hid hab
   replace hb2 := hid hb2
   clear HI HM hB
   go_wp2_with fail
   refine hC.out.mono ?_
   rintro e w2 ⟨rfl, d', hM⟩
   have hP2 := hid (permIn_trans _ _ _ 0 n hP.out (permIn_mono _ _ a b 0 n (by omega) (by omega) (by omega) hM.pm))
   have hB2 := hid (hst.out d' hM.pm hM.srt)
   have hk2 : d'.size = n := by rw [hM.sz]; exact hk
   have SK2 := hid hM.sw
   clear hC hst hM
   go_wp2
   go_roundw
   case rel => exact ⟨b, b2, d', rfl, rfl, hb2.out, hbn, h202, hk2, hP2, hB2, SK2⟩
   case measure => simp [intOf]; exact hms
  ·have hbz : ¬ (b : Int) ≤ (n : Int) := by omega
   have hC := hid (HI.out dk wr a n hk SK.out han (by omega))
   have hst := hid fun (d' : Array α) (p : PermIn a n dk d') (s : SortedIn (ltOf cf) a n d') => hB.out.last h20.out (by omega) p s
   clear hB HI
   go_wp2_with fail
   refine hC.out.mono ?_
   rintro e w2 ⟨rfl, d', hM⟩
   have hP2 := hid (permIn_trans _ _ _ 0 n hP.out (permIn_mono _ _ a n 0 n (by omega) (by omega) (by omega) hM.pm))
   have hB2 := hid (hst.out d' hM.pm hM.srt)
   have hk2 : d'.size = n := by rw [hM.sz]; exact hk
   have SK2 := hid hM.sw
   clear hC hst hM hP SK h20 hab hbn hbz han
   go_wp2
   go_loopw [6] (fun s6 wr => ∃ (k : Nat) (dk : Array α), s6 = .int .i64 (k : Int) ∧ 20 ≤ k ∧ dk.size = n ∧ Hid (PermIn 0 n d0 dk) ∧ Hid (Blks (ltOf cf) k n dk) ∧ Hid (SW enc w0 blk off dk wr)) (fun s6 _ => n - (intOf s6).toNat)
   case atStart => exact ⟨20, d', rfl, Nat.le_refl _, hk2, hP2, hB2, SK2⟩
   case round =>
    clear SK2 hP2 hB2 hk2
    obtain ⟨k, dk, rfl, hk20, hk, hP, hB, SK⟩ := hrel
    by_cases hkn : k < n
    ·have hkz : (k : Int) < (n : Int) := by omega
     obtain ⟨k2, hk2⟩ : ∃ z, 2 * k = z := ⟨_, rfl⟩
     have e1 : IntKind.i64.wrap (2 * (k : Int)) = (k2 : Int) := by rw [IntKind.wrap_i64]; omega
     have e1' : IntKind.i64.wrap ((k : Int) * 2) = (k2 : Int) := by rw [IntKind.wrap_i64]; omega
     have hk3 : k < k2 := by omega
     have hk4 : k2 ≤ 2 * n := by omega
     have h0 := hid (show Blk1 (ltOf cf) k2 n 0 dk ∧ Blk2 (ltOf cf) k n 0 dk from ⟨fun s i j _ h => by omega, fun s i j h1 h2 h3 h4 h5 h6 => hB.out s i j h1 h3 h4 h5 h6⟩)
     replace hk2 := hid hk2
     clear hB
     go_wp2
     go_loopw [7, 8] (fun s7 s8 wr => ∃ (a b : Nat) (dk : Array α), s7 = .int .i64 (a : Int) ∧ s8 = .int .i64 (b : Int) ∧ b = a + k2 ∧ a ≤ n ∧ Hid (k2 ∣ a) ∧ dk.size = n ∧ Hid (PermIn 0 n d0 dk) ∧ Hid (Blk1 (ltOf cf) k2 n a dk ∧ Blk2 (ltOf cf) k n a dk) ∧ Hid (SW enc w0 blk off dk wr)) (fun s7 s8 _ => n + k2 - (intOf s8).toNat)
     case atStart => exact ⟨0, k2, dk, rfl, rfl, by omega, by omega, Nat.dvd_zero _, hk, hP, h0, SK⟩
     case round =>
      clear SK hP h0 hk
      obtain ⟨a, b, dk, rfl, rfl, hab, han, hdv, hk, hP, hB, SK⟩ := hrel
      obtain ⟨am, ham⟩ : ∃ z, a + k = z := ⟨_, rfl⟩
      have e2 : IntKind.i64.wrap ((a : Int) + (k : Int)) = (am : Int) := by rw [IntKind.wrap_i64]; omega
      have hdk := hid (show k ∣ a from Nat.dvd_trans ⟨2, by rw [← hk2.out]; omega⟩ hdv.out)
      by_cases hbn : b ≤ n
      ·have hbz : (b : Int) ≤ (n : Int) := by omega
       have hC := hid (HM.out a am b dk wr hk SK.out (by omega) (by omega) (by omega) (hB.out.2.lo hdk.out (by omega) (by omega)) (by rw [← ham]; exact hB.out.2.hi hdk.out (by have := hk2.out; omega) hbn))
       obtain ⟨b2, hb2⟩ : ∃ z, b + k2 = z := ⟨_, rfl⟩
       have e3 : IntKind.i64.wrap ((b : Int) + (k2 : Int)) = (b2 : Int) := by rw [IntKind.wrap_i64]; omega
       have hdv2 := hid (show k2 ∣ b from hab ▸ Nat.dvd_add hdv.out (Nat.dvd_refl k2))
       have hst := hid fun (d' : Array α) (p : PermIn a b dk d') (s : SortedIn (ltOf cf) a b d') => (show Blk1 (ltOf cf) k2 n b d' ∧ Blk2 (ltOf cf) k n b d' from ⟨hB.out.1.step hdv.out hab hbn p s, hB.out.2.step (by omega) p⟩)
       have hms : n + k2 - b2 < n + k2 - b := by omega
       replace hab := hid hab
       replace hb2 := hid hb2
       replace ham := hid ham
       clear hB
       go_wp2_with fail
       refine hC.out.mono ?_
       rintro e w2 ⟨rfl, d', hM⟩
       have hP2 := hid (permIn_trans _ _ _ 0 n hP.out (permIn_mono _ _ a b 0 n (by omega) (by omega) (by omega) hM.pm))
       have hB2 := hid (hst.out d' hM.pm hM.srt)
       have hkk2 : d'.size = n := by rw [hM.sz]; exact hk
       have SK2 := hid hM.sw
       clear hC hst hM
       go_wp2
       go_roundw
       case rel => exact ⟨b, b2, d', rfl, rfl, hb2.out.symm, hbn, hdv2, hkk2, hP2, hB2, SK2⟩
       case measure => simp [intOf]; exact hms
      ·have hbz : ¬ (b : Int) ≤ (n : Int) := by omega
       have hms : n - k2 < n - k := by omega
       by_cases hmn : am < n
       ·have hmz : (am : Int) < (n : Int) := by omega
        have hC := hid (HM.out a am n dk wr hk SK.out (by omega) (by omega) (by omega) (hB.out.2.lo hdk.out (by omega) (by omega)) (by rw [← ham]; exact hB.out.2.hi hdk.out (by have := hk2.out; omega) (Nat.le_refl _)))
        have hst := hid fun (d' : Array α) (p : PermIn a n dk d') (s : SortedIn (ltOf cf) a n d') => hB.out.1.last hdv.out (by omega) p s
        clear hB
        go_wp2_with fail
        refine hC.out.mono ?_
        rintro e w2 ⟨rfl, d', hM⟩
        have hP2 := hid (permIn_trans _ _ _ 0 n hP.out (permIn_mono _ _ a n 0 n (by omega) (by omega) (by omega) hM.pm))
        have hB2 := hid (hst.out d' hM.pm hM.srt)
        have hkk2 : d'.size = n := by rw [hM.sz]; exact hk
        have SK2 := hid hM.sw
        clear hC hst hM
        go_wp2
        go_roundw
        case rel => exact ⟨k2, d', rfl, by omega, hkk2, hP2, hB2, SK2⟩
        case measure => simp [intOf]; exact hms
       ·have hmz : ¬ (am : Int) < (n : Int) := by omega
        have hB2 := hid (show Blks (ltOf cf) k2 n dk from by
         have h1 := hB.out.1
         have h3 := hdv.out
         rw [← hk2.out] at h1 h3 ⊢
         exact h1.last2 (by omega) h3 hB.out.2 (by omega))
        clear hB
        go_wp2
        go_roundw
        case rel => exact ⟨k2, dk, rfl, by omega, hk, hP, hB2, SK⟩
        case measure => simp [intOf]; exact hms
    ·have hkz : ¬ (k : Int) < (n : Int) := by omega
     have hsr := hid (hB.out.whole (by omega))
     clear HM hB
     go_wp2
     go_end0
     exact ⟨rfl, dk, by rw [hn]; exact hk, hP.out, hsr.out, SK.out⟩
end
end Go.Proofs.Ytjdgjhaggpahkaa
