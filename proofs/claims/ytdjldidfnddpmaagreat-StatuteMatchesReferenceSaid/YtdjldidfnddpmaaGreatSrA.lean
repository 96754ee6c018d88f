/- Walks of the reference of chapter 31: in, day, spell, Has, terms, Asks, Fact. Conditions: how the arguments lie in memory. -/
import Derived.Test.YtdjldidfnddpmaaGreatStP
import Derived.Test.YtdjldidfnddpmaaGreatSpA
namespace Go.Proofs.YtdjldidfnddpmaaGreat
open Go.RowKit
theorem decT {p : Prop} [Decidable p] (h : p) : decide p = true := decide_eq_true h
theorem decF {p : Prop} [Decidable p] (h : ¬ p) : decide p = false := decide_eq_false h
set_option maxRecDepth 100000 in
theorem inr_any (n lo hi : Int) (w : World) : Calls Tryz.prog 42 #[.int .i64 n, .int .i64 lo, .int .i64 hi] w (Ret (.bool (inB n lo hi)) w) := by
  have HR : Hid (inB n lo hi = decide (lo ≤ n ∧ n ≤ hi)) := hide rfl
  generalize inB n lo hi = R at HR ⊢
  go_enter Tryz.func42, Tryz.ntmps42
  by_cases h1 : lo ≤ n
  · have d1 := decT h1
    by_cases h2 : n ≤ hi
    · have d2 := decT h2
      have HR' : Hid (R = true) := hide (by rw [HR.out]; exact decide_eq_true ⟨h1, h2⟩)
      go_wp2_with fail
      go_ret
      exact ⟨by rw [HR'.out]; rfl, Below.refl _ _⟩
    · have d2 := decF h2
      have HR' : Hid (R = false) := hide (by rw [HR.out]; exact decide_eq_false fun h => h2 h.2)
      go_wp2_with fail
      go_ret
      exact ⟨by rw [HR'.out]; rfl, Below.refl _ _⟩
  · have d1 := decF h1
    have HR' : Hid (R = false) := hide (by rw [HR.out]; exact decide_eq_false fun h => h1 h.1)
    go_wp2_with fail
    go_ret
    exact ⟨by rw [HR'.out]; rfl, Below.refl _ _⟩
set_option maxRecDepth 100000 in
theorem dayr_any (n : Int) (w : World) : Calls Tryz.prog 40 #[.int .i64 n] w (Ret (.bool (dayB n)) w) := by
  have HC := hide (inr_any n 0 799999 w)
  have HR : Hid (dayB n = inB n 0 799999) := hide rfl
  generalize dayB n = R at HR ⊢
  go_enter Tryz.func40, Tryz.ntmps40
  go_wp2_with fail
  refine HC.out.mono ?_
  rintro e w' ⟨rfl, hb⟩
  go_wp2_with fail
  go_ret
  exact ⟨by rw [HR.out]; rfl, hb⟩
set_option maxRecDepth 100000 in
theorem spellr_any (f t : Int) (w : World) : Calls Tryz.prog 41 #[.agg #[.int .i64 f, .int .i64 t]] w (Ret (.bool (spellB f t)) w) := by
  have HR : Hid (spellB f t = (decide (0 ≤ f) && decide (f < t) && decide (t ≤ 800000))) := hide (spell_same f t).symm
  generalize spellB f t = R at HR ⊢
  go_enter Tryz.func41, Tryz.ntmps41
  by_cases h1 : 0 ≤ f
  · have d1 := decT h1
    by_cases h2 : f < t
    · have d2 := decT h2
      by_cases h3 : t ≤ 800000
      · have d3 := decT h3
        have HR' : Hid (R = true) := hide (by rw [HR.out, d1, d2, d3]; rfl)
        go_wp2_with fail
        go_ret
        exact ⟨by rw [HR'.out]; rfl, bal w _⟩
      · have d3 := decF h3
        have HR' : Hid (R = false) := hide (by rw [HR.out, d1, d2, d3]; rfl)
        go_wp2_with fail
        go_ret
        exact ⟨by rw [HR'.out]; rfl, bal w _⟩
    · have d2 := decF h2
      have HR' : Hid (R = false) := hide (by rw [HR.out, d1, d2]; rfl)
      go_wp2_with fail
      go_ret
      exact ⟨by rw [HR'.out]; rfl, bal w _⟩
  · have d1 := decF h1
    have HR' : Hid (R = false) := hide (by rw [HR.out, d1]; rfl)
    go_wp2_with fail
    go_ret
    exact ⟨by rw [HR'.out]; rfl, bal w _⟩
set_option maxRecDepth 100000 in
theorem hasr_any (f t d : Int) (w : World) : Calls Tryz.prog 68 #[.agg #[.int .i64 f, .int .i64 t], .int .i64 d] w (Ret (.bool (hasD f t d)) w) := by
  have HR : Hid (hasD f t d = (decide (f ≤ d) && decide (d < t))) := hide (has_same f t d).symm
  generalize hasD f t d = R at HR ⊢
  go_enter Tryz.func68, Tryz.ntmps68
  by_cases h1 : f ≤ d
  · have d1 := decT h1
    by_cases h2 : d < t
    · have d2 := decT h2
      have HR' : Hid (R = true) := hide (by rw [HR.out, d1, d2]; rfl)
      go_wp2_with fail
      go_ret
      exact ⟨by rw [HR'.out]; rfl, bal w _⟩
    · have d2 := decF h2
      have HR' : Hid (R = false) := hide (by rw [HR.out, d1, d2]; rfl)
      go_wp2_with fail
      go_ret
      exact ⟨by rw [HR'.out]; rfl, bal w _⟩
  · have d1 := decF h1
    have HR' : Hid (R = false) := hide (by rw [HR.out, d1]; rfl)
    go_wp2_with fail
    go_ret
    exact ⟨by rw [HR'.out]; rfl, bal w _⟩
set_option maxRecDepth 100000 in
set_option maxHeartbeats 2000000 in
theorem asksr_any (q : QueryD) (w : World) : Calls Tryz.prog 16 #[queryV q] w (Ret (.bool (asksB q)) w) := by
  have HR : Hid (asksB q = (inB q.thing 0 99 && inB q.says 0 19 && dayB q.day && dayB q.known)) := hide rfl
  have H1 := hide (fun W => inr_any q.thing 0 99 W)
  have H2 := hide (fun W => inr_any q.says 0 19 W)
  have H3 := hide (fun W => dayr_any q.day W)
  have H4 := hide (fun W => dayr_any q.known W)
  generalize asksB q = R at HR ⊢
  generalize inB q.thing 0 99 = b1 at *
  generalize inB q.says 0 19 = b2 at *
  generalize dayB q.day = b3 at *
  generalize dayB q.known = b4 at *
  go_enter Tryz.func16, Tryz.ntmps16
  go_wp2_with fail
  generalize hX1 : World.alloc w _ = X1
  have zX1 : X1.heap.size = w.heap.size + 1 := by rw [← hX1]; simp
  have bX1 : Below w.heap.size w X1 := by rw [← hX1]; exact bal w _
  have bQ : Blk X1 (w.heap.size) (queryC q) 33 := by rw [← hX1]; exact Blk.newA w _ (by first | rfl | simp)
  have Xb := bX1
  have Xz := zX1
  clear hX1 zX1 bX1
  have q0 := bQ.cell 0 rfl
  go_wp2_with fail
  refine (H1.out _).mono ?_
  rintro e w1 ⟨rfl, hb1⟩
  have hw1 := below2 Xb hb1
  replace bQ := bQ.later hb1
  clear q0 hb1
  cases b1
  · go_wp2_with fail
    go_ret
    exact ⟨by rw [HR.out]; rfl, hw1⟩
  · have q1 := bQ.cell 1 rfl
    go_wp2_with fail
    refine (H2.out _).mono ?_
    rintro e w2 ⟨rfl, hb2⟩
    have hw2 := below2 hw1 hb2
    replace bQ := bQ.later hb2
    clear q1 hb2 hw1
    cases b2
    · go_wp2_with fail
      go_ret
      exact ⟨by rw [HR.out]; rfl, hw2⟩
    · have q2 := bQ.cell 2 rfl
      go_wp2_with fail
      refine (H3.out _).mono ?_
      rintro e w3 ⟨rfl, hb3⟩
      have hw3 := below2 hw2 hb3
      replace bQ := bQ.later hb3
      clear q2 hb3 hw2
      cases b3
      · go_wp2_with fail
        go_ret
        exact ⟨by rw [HR.out]; rfl, hw3⟩
      · have q3 := bQ.cell 3 rfl
        go_wp2_with fail
        refine (H4.out _).mono ?_
        rintro e w4 ⟨rfl, hb4⟩
        have hw4 := below2 hw3 hb4
        clear q3 hb4 hw3
        cases b4
        · go_wp2_with fail
          go_ret
          exact ⟨by rw [HR.out]; rfl, hw4⟩
        · go_wp2_with fail
          go_ret
          exact ⟨by rw [HR.out]; rfl, hw4⟩
set_option maxRecDepth 100000 in
set_option maxHeartbeats 2000000 in
theorem factr_any (x : FactD) (q : QueryD) (w : World) : Calls Tryz.prog 53 #[factV x, queryV q] w (Ret (.bool (statesB x q)) w) := by
  have HR : Hid (statesB x q = (decide (x.thing = q.thing) && hasD x.sf x.st q.day && hasD x.kf x.kt q.known)) := hide rfl
  have H1 := hide (fun W => hasr_any x.sf x.st q.day W)
  have H2 := hide (fun W => hasr_any x.kf x.kt q.known W)
  generalize statesB x q = R at HR ⊢
  generalize hasD x.sf x.st q.day = b1 at *
  generalize hasD x.kf x.kt q.known = b2 at *
  by_cases h1 : x.thing = q.thing
  · have d1 : (x.thing == q.thing) = true := by simpa using h1
    have HR' : Hid (R = (b1 && b2)) := hide (by rw [HR.out, decide_eq_true h1]; rfl)
    clear h1 HR
    go_enter Tryz.func53, Tryz.ntmps53
    go_wp2_with fail
    generalize hX1 : World.alloc w _ = X1
    have zX1 : X1.heap.size = w.heap.size + 1 := by rw [← hX1]; simp
    have bX1 : Below w.heap.size w X1 := by rw [← hX1]; exact bal w _
    have bF_1 : Blk X1 (w.heap.size) (factC x) 74 := by rw [← hX1]; exact Blk.newA w _ (by first | rfl | simp)
    generalize hX2 : World.alloc X1 _ = X2
    have zX2 : X2.heap.size = w.heap.size + 1 + 1 := by rw [← hX2]; simp [zX1]
    have bX2 : Below X1.heap.size X1 X2 := by rw [← hX2]; exact bal X1 _
    have bQ : Blk X2 (w.heap.size + 1) (queryC q) 33 := by rw [← hX2, ← zX1]; exact Blk.newA X1 _ (by first | rfl | simp)
    have bF := bF_1.later bX2
    have Xb := below2 (bX1) bX2
    have Xz := zX2
    clear hX1 zX1 bX1 hX2 zX2 bX2 bF_1
    refine (H1.out _).mono ?_
    rintro e w1 ⟨rfl, hb1⟩
    have hw1 := below2 Xb hb1
    replace bQ := bQ.later hb1
    replace bF := bF.later hb1
    clear hb1 Xb
    cases b1
    · go_wp2_with fail
      go_ret
      exact ⟨by rw [HR'.out]; rfl, hw1⟩
    · have f4 := bF.cell 4 rfl
      have f5 := bF.cell 5 rfl
      have q3 := bQ.cell 3 rfl
      go_wp2_with fail
      refine (H2.out _).mono ?_
      rintro e w2 ⟨rfl, hb2⟩
      have hw2 := below2 hw1 hb2
      clear f4 f5 q3 hb2 hw1
      cases b2
      · go_wp2_with fail
        go_ret
        exact ⟨by rw [HR'.out]; rfl, hw2⟩
      · go_wp2_with fail
        go_ret
        exact ⟨by rw [HR'.out]; rfl, hw2⟩
  · have d1 : (x.thing == q.thing) = false := by simpa using h1
    have HR' : Hid (R = false) := hide (by rw [HR.out, decide_eq_false h1]; rfl)
    clear h1 HR
    go_enter Tryz.func53, Tryz.ntmps53
    go_wp2_with fail
    generalize hX1 : World.alloc w _ = X1
    have zX1 : X1.heap.size = w.heap.size + 1 := by rw [← hX1]; simp
    have bX1 : Below w.heap.size w X1 := by rw [← hX1]; exact bal w _
    have bF_1 : Blk X1 (w.heap.size) (factC x) 74 := by rw [← hX1]; exact Blk.newA w _ (by first | rfl | simp)
    generalize hX2 : World.alloc X1 _ = X2
    have zX2 : X2.heap.size = w.heap.size + 1 + 1 := by rw [← hX2]; simp [zX1]
    have bX2 : Below X1.heap.size X1 X2 := by rw [← hX2]; exact bal X1 _
    have bQ : Blk X2 (w.heap.size + 1) (queryC q) 33 := by rw [← hX2, ← zX1]; exact Blk.newA X1 _ (by first | rfl | simp)
    have bF := bF_1.later bX2
    have Xb := below2 (bX1) bX2
    have Xz := zX2
    clear hX1 zX1 bX1 hX2 zX2 bX2 bF_1
    go_ret
    exact ⟨by rw [HR'.out]; rfl, Xb⟩
end Go.Proofs.YtdjldidfnddpmaaGreat
