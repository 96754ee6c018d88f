/- Walks of the small functions of package statute. Conditions: how the arguments lie in memory; sizes. -/
import Derived.Test.YtdjldidfnddpmaaGreatDoorStN
import Derived.Test.YtdjldidfnddpmaaGreatDoorSpA
import Derived.Test.YtdjldidfnddpmaaGreatDoorBase
import Derived.Test.YtdjldidfnddpmaaGreatDoorBlkB
namespace Go.Proofs.YtdjldidfnddpmaaGreatDoor
open Go.RowKit

theorem inB_eq (n lo hi : Int) : inB n lo hi = (decide (lo ≤ n) && decide (n ≤ hi)) := by
  unfold inB; rw [Bool.eq_iff_iff]; simp
set_option maxHeartbeats 400000 in
theorem isInS_eq (n lo hi : Int) (w : World) :
    Calls Tryz.prog 43 #[.int .i64 n, .int .i64 lo, .int .i64 hi] w fun e w' => e = .returned (.bool (inB n lo hi)) ∧ w' = w := by
  by_cases h1 : lo ≤ n
  · by_cases h2 : n ≤ hi
    all_goals
      have h3 := h1
      have h4 := h2
      go_enter Tryz.func43, Tryz.ntmps43
      go_wp2
      go_ret
      exact ⟨ret_bool (by rw [inB_eq]; simp; omega), rfl⟩
  · have h3 := h1
    go_enter Tryz.func43, Tryz.ntmps43
    go_wp2
    go_ret
    exact ⟨ret_bool (by rw [inB_eq]; simp; omega), rfl⟩
theorem isDayS_eq (n : Int) (w : World) : Calls Tryz.prog 41 #[.int .i64 n] w fun e w' => e = .returned (.bool (dayB n)) ∧ w' = w := by
  have HC := hide (isInS_eq n 0 799999 w)
  have HD : Hid (dayB n = inB n 0 799999) := hide rfl
  generalize inB n 0 799999 = b at HC HD
  go_enter Tryz.func41, Tryz.ntmps41
  go_wp2_with fail
  refine HC.out.mono ?_
  rintro e w' ⟨rfl, hw⟩; obtain rfl := hw.symm
  go_wp2_with fail
  go_ret
  exact ⟨ret_bool (by rw [HD.out]), rfl⟩
theorem isSpellS_any (f t : Int) (w : World) : Calls Tryz.prog 42 #[.agg #[.int .i64 f, .int .i64 t]] w (Ret (.bool (spellB f t)) w) := by
  have HD := hide (fun W => isDayS_eq f W)
  have HF : Hid (spellB f t = (dayB f && inB t (f + 1) 800000)) := hide rfl
  have HB := hide (fun h : dayB f = true => (show 0 ≤ f ∧ f ≤ 799999 from of_decide_eq_true h))
  have HC := hide (fun W => isInS_eq t (f + 1) 800000 W)
  generalize inB t (f + 1) 800000 = c at HC HF
  generalize dayB f = d at HD HF HB
  go_enter Tryz.func42, Tryz.ntmps42
  go_wp2_with fail
  generalize hX1 : World.alloc w _ = X1
  have zX1 : X1.heap.size = w.heap.size + 1 := by rw [← hX1]; simp
  have bX1 : Below w.heap.size w X1 := by rw [← hX1]; exact bal w _
  have bS : Blk X1 (w.heap.size) [.int .i64 f, .int .i64 t] 35 := by rw [← hX1]; exact Blk.newA w _ (by first | rfl | simp)
  have Xb := bX1
  have Xz := zX1
  clear hX1 zX1 bX1
  have s0 := bS.cell 0 rfl
  have s1 := bS.cell 1 rfl
  go_wp2_with fail
  refine (HD.out _).mono ?_
  rintro e w' ⟨rfl, hw⟩; obtain rfl := hw.symm
  cases d
  · go_wp2_with fail
    go_ret
    exact ⟨ret_bool (by rw [HF.out]; rfl), Xb⟩
  · have hb := HB.out rfl
    have e1 : IntKind.i64.wrap (f + 1) = f + 1 := IntWalk.i64_in _ ⟨by omega, by omega⟩
    clear hb
    go_wp2_with fail
    refine (HC.out _).mono ?_
    rintro e w' ⟨rfl, hw⟩; obtain rfl := hw.symm
    go_wp2_with fail
    go_ret
    exact ⟨ret_bool (by rw [HF.out]; rfl), Xb⟩
theorem hasS_any (f t d : Int) (w : World) (ht : -9223372036854775807 ≤ t) (ht2 : t ≤ 9223372036854775807) : Calls Tryz.prog 49 #[.agg #[.int .i64 f, .int .i64 t], .int .i64 d] w (Ret (.bool (hasD f t d)) w) := by
  have HC := hide (fun W => isInS_eq d f (t - 1) W)
  have HF : Hid (hasD f t d = inB d f (t - 1)) := hide rfl
  have e1 : IntKind.i64.wrap (t - 1) = t - 1 := IntWalk.i64_in _ ⟨by omega, by omega⟩
  generalize inB d f (t - 1) = c at HC HF
  clear ht ht2
  go_enter Tryz.func49, Tryz.ntmps49
  go_wp2_with fail
  generalize hX1 : World.alloc w _ = X1
  have zX1 : X1.heap.size = w.heap.size + 1 := by rw [← hX1]; simp
  have bX1 : Below w.heap.size w X1 := by rw [← hX1]; exact bal w _
  have bS : Blk X1 (w.heap.size) [.int .i64 f, .int .i64 t] 35 := by rw [← hX1]; exact Blk.newA w _ (by first | rfl | simp)
  have Xb := bX1
  have Xz := zX1
  clear hX1 zX1 bX1
  have s0 := bS.cell 0 rfl
  have s1 := bS.cell 1 rfl
  go_wp2_with fail
  refine (HC.out _).mono ?_
  rintro e w' ⟨rfl, hw⟩; obtain rfl := hw.symm
  go_wp2_with fail
  go_ret
  exact ⟨ret_bool (by rw [HF.out]), Xb⟩
theorem asksS_any (q : QueryD) (w : World) : Calls Tryz.prog 18 #[queryV q] w (Ret (.bool (asksB q)) w) := by
  have H1 := hide (fun W => isInS_eq q.thing 0 99 W)
  have H2 := hide (fun W => isInS_eq q.says 0 19 W)
  have H3 := hide (fun W => isDayS_eq q.day W)
  have H4 := hide (fun W => isDayS_eq q.known W)
  have HF : Hid (asksB q = (inB q.thing 0 99 && inB q.says 0 19 && dayB q.day && dayB q.known)) := hide rfl
  generalize inB q.thing 0 99 = b1 at H1 HF
  generalize inB q.says 0 19 = b2 at H2 HF
  generalize dayB q.day = b3 at H3 HF
  generalize dayB q.known = b4 at H4 HF
  go_enter Tryz.func18, Tryz.ntmps18
  go_wp2_with fail
  generalize hX1 : World.alloc w _ = X1
  have zX1 : X1.heap.size = w.heap.size + 1 := by rw [← hX1]; simp
  have bX1 : Below w.heap.size w X1 := by rw [← hX1]; exact bal w _
  have bS : Blk X1 (w.heap.size) (queryC q) 40 := by rw [← hX1]; exact Blk.newA w _ (by first | rfl | simp)
  have Xb := bX1
  have Xz := zX1
  clear hX1 zX1 bX1
  have s0 := bS.cell 0 rfl
  have s1 := bS.cell 1 rfl
  have s2 := bS.cell 2 rfl
  have s3 := bS.cell 3 rfl
  go_wp2_with fail
  refine (H1.out _).mono ?_
  rintro e w' ⟨rfl, hw⟩; obtain rfl := hw.symm
  cases b1
  · go_wp2_with fail
    go_ret
    exact ⟨ret_bool (by rw [HF.out]; rfl), Xb⟩
  go_wp2_with fail
  refine (H2.out _).mono ?_
  rintro e w' ⟨rfl, hw⟩; obtain rfl := hw.symm
  cases b2
  · go_wp2_with fail
    go_ret
    exact ⟨ret_bool (by rw [HF.out]; rfl), Xb⟩
  go_wp2_with fail
  refine (H3.out _).mono ?_
  rintro e w' ⟨rfl, hw⟩; obtain rfl := hw.symm
  cases b3
  · go_wp2_with fail
    go_ret
    exact ⟨ret_bool (by rw [HF.out]; rfl), Xb⟩
  go_wp2_with fail
  refine (H4.out _).mono ?_
  rintro e w' ⟨rfl, hw⟩; obtain rfl := hw.symm
  go_wp2_with fail
  go_ret
  exact ⟨ret_bool (by rw [HF.out]; cases b4 <;> rfl), Xb⟩
end Go.Proofs.YtdjldidfnddpmaaGreatDoor
