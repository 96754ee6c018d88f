/- Walks of package statute: states, the closures of rules and of Valid at facts and repeals. Conditions: spells within bounds; how the caught variables lie in memory. -/
import Derived.Test.YtdjldidfnddpmaaGreatDoorStP
namespace Go.Proofs.YtdjldidfnddpmaaGreatDoor
open Go.RowKit
set_option maxHeartbeats 400000
theorem statesS_any (x : FactD) (q : QueryD) (w : World) (h1 : -9223372036854775807 ≤ x.st) (h2 : x.st ≤ 9223372036854775807) (h3 : -9223372036854775807 ≤ x.kt) (h4 : x.kt ≤ 9223372036854775807) : Calls Tryz.prog 22 #[factV x, queryV q] w (Ret (.bool (statesB x q)) w) := by
  have H1 := hide (fun W => hasS_any x.sf x.st q.day W h1 h2)
  have H2 := hide (fun W => hasS_any x.kf x.kt q.known W h3 h4)
  have HF : Hid (statesB x q = (decide (x.thing = q.thing) && hasD x.sf x.st q.day && hasD x.kf x.kt q.known)) := hide rfl
  generalize hasD x.sf x.st q.day = b1 at H1 HF
  generalize hasD x.kf x.kt q.known = b2 at H2 HF
  clear h1 h2 h3 h4
  go_enter Tryz.func22, Tryz.ntmps22
  by_cases e : x.thing = q.thing
  · have e' : (x.thing == q.thing) = true := by simp [e]
    have HE : Hid (decide (x.thing = q.thing) = true) := hide (decide_eq_true e)
    clear e
    go_wp2_with fail
    generalize hX1 : World.alloc w _ = X1
    have zX1 : X1.heap.size = w.heap.size + 1 := by rw [← hX1]; simp
    have bX1 : Below w.heap.size w X1 := by rw [← hX1]; exact bal w _
    have bF_1 : Blk X1 (w.heap.size) (factC x) 49 := by rw [← hX1]; exact Blk.newA w _ (by first | rfl | simp)
    generalize hX2 : World.alloc X1 _ = X2
    have zX2 : X2.heap.size = w.heap.size + 1 + 1 := by rw [← hX2]; simp [zX1]
    have bX2 : Below X1.heap.size X1 X2 := by rw [← hX2]; exact bal X1 _
    have bQ : Blk X2 (w.heap.size + 1) (queryC q) 40 := by rw [← hX2, ← zX1]; exact Blk.newA X1 _ (by first | rfl | simp)
    have bF := bF_1.later bX2
    have Xb := below2 (bX1) bX2
    have Xz := zX2
    clear hX1 zX1 bX1 hX2 zX2 bX2 bF_1
    have f0 := bF.cell 0 rfl
    have f2 := bF.cell 2 rfl
    have f3 := bF.cell 3 rfl
    have q0 := bQ.cell 0 rfl
    have q2 := bQ.cell 2 rfl
    go_wp2_with fail
    refine (H1.out _).mono ?_
    rintro e w' ⟨rfl, hw⟩
    have f4' := (bF.later hw).cell 4 rfl
    have f5' := (bF.later hw).cell 5 rfl
    have q3' := (bQ.later hw).cell 3 rfl
    have Xc := below2 Xb hw
    cases b1
    · go_wp2_with fail
      go_ret
      exact ⟨ret_bool (by rw [HF.out, HE.out]; rfl), Xc⟩
    · go_wp2_with fail
      refine (H2.out _).mono ?_
      rintro e w2 ⟨rfl, hw2⟩
      go_wp2_with fail
      go_ret
      exact ⟨ret_bool (by rw [HF.out, HE.out]; rfl), below2 Xc hw2⟩
  · have e' : (x.thing == q.thing) = false := by simp [e]
    have HE : Hid (decide (x.thing = q.thing) = false) := hide (decide_eq_false e)
    clear e
    go_wp2_with fail
    generalize hX1 : World.alloc w _ = X1
    have zX1 : X1.heap.size = w.heap.size + 1 := by rw [← hX1]; simp
    have bX1 : Below w.heap.size w X1 := by rw [← hX1]; exact bal w _
    have bF_1 : Blk X1 (w.heap.size) (factC x) 49 := by rw [← hX1]; exact Blk.newA w _ (by first | rfl | simp)
    generalize hX2 : World.alloc X1 _ = X2
    have zX2 : X2.heap.size = w.heap.size + 1 + 1 := by rw [← hX2]; simp [zX1]
    have bX2 : Below X1.heap.size X1 X2 := by rw [← hX2]; exact bal X1 _
    have bQ : Blk X2 (w.heap.size + 1) (queryC q) 40 := by rw [← hX2, ← zX1]; exact Blk.newA X1 _ (by first | rfl | simp)
    have bF := bF_1.later bX2
    have Xb := below2 (bX1) bX2
    have Xz := zX2
    clear hX1 zX1 bX1 hX2 zX2 bX2 bF_1
    have f0 := bF.cell 0 rfl
    have f2 := bF.cell 2 rfl
    have f3 := bF.cell 3 rfl
    have q0 := bQ.cell 0 rfl
    have q2 := bQ.cell 2 rfl
    go_wp2_with fail
    go_ret
    exact ⟨ret_bool (by rw [HF.out, HE.out]; rfl), Xb⟩
theorem vfact_any (x : FactD) (w : World) : Calls Tryz.prog 48 #[factV x] w (Ret (.bool (!factB x)) w) := by
  have H1 := hide (fun W => isInS_eq x.thing 0 99 W)
  have H2 := hide (fun W => isInS_eq x.says 0 19 W)
  have H3 := hide (fun W => isSpellS_any x.sf x.st W)
  have H4 := hide (fun W => isSpellS_any x.kf x.kt W)
  have HF : Hid (factB x = (inB x.thing 0 99 && inB x.says 0 19 && spellB x.sf x.st && spellB x.kf x.kt)) := hide rfl
  generalize inB x.thing 0 99 = b1 at H1 HF
  generalize inB x.says 0 19 = b2 at H2 HF
  generalize spellB x.sf x.st = b3 at H3 HF
  generalize spellB x.kf x.kt = b4 at H4 HF
  go_enter Tryz.func48, Tryz.ntmps48
  go_wp2_with fail
  generalize hX1 : World.alloc w _ = X1
  have zX1 : X1.heap.size = w.heap.size + 1 := by rw [← hX1]; simp
  have bX1 : Below w.heap.size w X1 := by rw [← hX1]; exact bal w _
  have bF : Blk X1 (w.heap.size) (factC x) 49 := by rw [← hX1]; exact Blk.newA w _ (by first | rfl | simp)
  have Xb := bX1
  have Xz := zX1
  clear hX1 zX1 bX1
  have f0 := bF.cell 0 rfl
  have f1 := bF.cell 1 rfl
  have f2 := bF.cell 2 rfl
  have f3 := bF.cell 3 rfl
  go_wp2_with fail
  refine (H1.out _).mono ?_
  rintro e w' ⟨rfl, hw⟩; obtain rfl := hw.symm
  cases b1
  · go_wp2_with fail
    go_ret
    exact ⟨ret_bool (by rw [HF.out]; rfl), Xb⟩
  go_wp2_with fail
  refine (H2.out _).mono ?_
  rintro e w' ⟨rfl, hw⟩; obtain rfl := hw.symm
  cases b2
  · go_wp2_with fail
    go_ret
    exact ⟨ret_bool (by rw [HF.out]; rfl), Xb⟩
  go_wp2_with fail
  refine (H3.out _).mono ?_
  rintro e w' ⟨rfl, hw⟩
  have f4' := (bF.later hw).cell 4 rfl
  have f5' := (bF.later hw).cell 5 rfl
  have Xc := below2 Xb hw
  cases b3
  · go_wp2_with fail
    go_ret
    exact ⟨ret_bool (by rw [HF.out]; rfl), Xc⟩
  go_wp2_with fail
  refine (H4.out _).mono ?_
  rintro e w2 ⟨rfl, hw2⟩
  go_wp2_with fail
  go_ret
  exact ⟨ret_bool (by rw [HF.out]; cases b4 <;> rfl), below2 Xc hw2⟩
theorem vrep_any (x : RepealD) (g : Nat) (ca : Option Addr) (m n : Nat) (hm : m ≤ 1000) (w : World) (hc : w.cell? ⟨g, 0, none⟩ = some (.slice ca m n)) : Calls Tryz.prog 46 #[repealV x, .pointer (some ⟨g, 0, none⟩)] w (Ret (.bool (!repealB m x)) w) := by
  have H1 := hide (fun W => isInS_eq x.clause 0 (m - 1) W)
  have H2 := hide (fun W => isDayS_eq x.pub W)
  have H3 := hide (fun W => isDayS_eq x.from_ W)
  have HF : Hid (repealB m x = (inB x.clause 0 (m - 1) && dayB x.pub && dayB x.from_)) := hide rfl
  have e1 : IntKind.i64.wrap ((m : Int) - 1) = (m : Int) - 1 := IntWalk.i64_in _ ⟨by omega, by omega⟩
  generalize inB x.clause 0 (m - 1) = b1 at H1 HF
  generalize dayB x.pub = b2 at H2 HF
  generalize dayB x.from_ = b3 at H3 HF
  go_enter Tryz.func46, Tryz.ntmps46
  have hc1 : ∀ o, (w.alloc o).cell? ⟨g, 0, none⟩ = some (.slice ca m n) := fun o => keep (bal w o) hc
  go_wp2_with fail
  generalize hX1 : World.alloc w _ = X1
  have zX1 : X1.heap.size = w.heap.size + 1 := by rw [← hX1]; simp
  have bX1 : Below w.heap.size w X1 := by rw [← hX1]; exact bal w _
  have bF : Blk X1 (w.heap.size) (repealC x) 63 := by rw [← hX1]; exact Blk.newA w _ (by first | rfl | simp)
  have Xb := bX1
  have Xz := zX1
  clear hX1 zX1 bX1
  have f0 := bF.cell 0 rfl
  have f1 := bF.cell 1 rfl
  have f2 := bF.cell 2 rfl
  have hc' := keep Xb hc
  clear hc1
  go_wp2_with fail
  refine (H1.out _).mono ?_
  rintro e w' ⟨rfl, hw⟩; obtain rfl := hw.symm
  cases b1
  · go_wp2_with fail
    go_ret
    exact ⟨ret_bool (by rw [HF.out]; rfl), Xb⟩
  go_wp2_with fail
  refine (H2.out _).mono ?_
  rintro e w' ⟨rfl, hw⟩; obtain rfl := hw.symm
  cases b2
  · go_wp2_with fail
    go_ret
    exact ⟨ret_bool (by rw [HF.out]; rfl), Xb⟩
  go_wp2_with fail
  refine (H3.out _).mono ?_
  rintro e w' ⟨rfl, hw⟩; obtain rfl := hw.symm
  go_wp2_with fail
  go_ret
  exact ⟨ret_bool (by rw [HF.out]; cases b3 <;> rfl), Xb⟩
theorem rulesc_any (r : RepealD) (i : Int) (q : QueryD) (bi bq : Nat) (w : World) (Hi : Blk w bi [.int .i64 i] 3) (Hq : Blk w bq (queryC q) 40) : Calls Tryz.prog 52 #[repealV r, .pointer (some ⟨bi, 0, none⟩), .pointer (some ⟨bq, 0, none⟩)] w (Ret (.bool (repealsB i q r)) w) := by
  have HF : Hid (repealsB i q r = (decide (r.clause = i) && decide (r.pub ≤ q.known) && decide (r.from_ ≤ q.day))) := hide rfl
  have hi1 : ∀ o, (w.alloc o).cell? ⟨bi, 0, none⟩ = some (.int .i64 i) := fun o => keep (bal w o) (Hi.cell 0 rfl)
  have hq2 : ∀ o, (w.alloc o).cell? ⟨bq, 2, none⟩ = some (.int .i64 q.day) := fun o => keep (bal w o) (Hq.cell 2 rfl)
  have hq3 : ∀ o, (w.alloc o).cell? ⟨bq, 3, none⟩ = some (.int .i64 q.known) := fun o => keep (bal w o) (Hq.cell 3 rfl)
  go_enter Tryz.func52, Tryz.ntmps52
  by_cases e : r.clause = i
  · have e' : (r.clause == i) = true := by simp [e]
    have HE : Hid (decide (r.clause = i) = true) := hide (decide_eq_true e)
    clear e
    by_cases e2 : r.pub ≤ q.known
    · have HE2 : Hid (decide (r.pub ≤ q.known) = true) := hide (decide_eq_true e2)
      go_wp2_with fail
      generalize hX1 : World.alloc w _ = X1
      have zX1 : X1.heap.size = w.heap.size + 1 := by rw [← hX1]; simp
      have bX1 : Below w.heap.size w X1 := by rw [← hX1]; exact bal w _
      have bF : Blk X1 (w.heap.size) (repealC r) 63 := by rw [← hX1]; exact Blk.newA w _ (by first | rfl | simp)
      have Xb := bX1
      have Xz := zX1
      clear hX1 zX1 bX1
      have f0 := bF.cell 0 rfl
      have f1 := bF.cell 1 rfl
      have f2 := bF.cell 2 rfl
      have i0 := (Hi.later Xb).cell 0 rfl
      have q2 := (Hq.later Xb).cell 2 rfl
      have q3 := (Hq.later Xb).cell 3 rfl
      go_wp2_with fail
      go_ret
      exact ⟨ret_bool (by rw [HF.out, HE.out, HE2.out]; simp), Xb⟩
    · have HE2 : Hid (decide (r.pub ≤ q.known) = false) := hide (decide_eq_false e2)
      go_wp2_with fail
      generalize hX1 : World.alloc w _ = X1
      have zX1 : X1.heap.size = w.heap.size + 1 := by rw [← hX1]; simp
      have bX1 : Below w.heap.size w X1 := by rw [← hX1]; exact bal w _
      have bF : Blk X1 (w.heap.size) (repealC r) 63 := by rw [← hX1]; exact Blk.newA w _ (by first | rfl | simp)
      have Xb := bX1
      have Xz := zX1
      clear hX1 zX1 bX1
      have f0 := bF.cell 0 rfl
      have f1 := bF.cell 1 rfl
      have f2 := bF.cell 2 rfl
      have i0 := (Hi.later Xb).cell 0 rfl
      have q2 := (Hq.later Xb).cell 2 rfl
      have q3 := (Hq.later Xb).cell 3 rfl
      go_wp2_with fail
      go_ret
      exact ⟨ret_bool (by rw [HF.out, HE.out, HE2.out]; simp), Xb⟩
  · have e' : (r.clause == i) = false := by simp [e]
    have HE : Hid (decide (r.clause = i) = false) := hide (decide_eq_false e)
    clear e
    go_wp2_with fail
    generalize hX1 : World.alloc w _ = X1
    have zX1 : X1.heap.size = w.heap.size + 1 := by rw [← hX1]; simp
    have bX1 : Below w.heap.size w X1 := by rw [← hX1]; exact bal w _
    have bF : Blk X1 (w.heap.size) (repealC r) 63 := by rw [← hX1]; exact Blk.newA w _ (by first | rfl | simp)
    have Xb := bX1
    have Xz := zX1
    clear hX1 zX1 bX1
    have f0 := bF.cell 0 rfl
    have f1 := bF.cell 1 rfl
    have f2 := bF.cell 2 rfl
    have i0 := (Hi.later Xb).cell 0 rfl
    have q2 := (Hq.later Xb).cell 2 rfl
    have q3 := (Hq.later Xb).cell 3 rfl
    go_wp2_with fail
    go_ret
    exact ⟨ret_bool (by rw [HF.out, HE.out]; rfl), Xb⟩
end Go.Proofs.YtdjldidfnddpmaaGreatDoor
