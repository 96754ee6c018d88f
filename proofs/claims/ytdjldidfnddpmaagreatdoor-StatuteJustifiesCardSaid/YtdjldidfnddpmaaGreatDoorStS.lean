/- Walks of package statute: Valid. Condition: how the laws lie in memory. -/
import Derived.Test.YtdjldidfnddpmaaGreatDoorStQ
import Derived.Test.YtdjldidfnddpmaaGreatDoorStR
namespace Go.Proofs.YtdjldidfnddpmaaGreatDoor
open Go.RowKit
set_option maxHeartbeats 400000
theorem vclause_any (x : ClauseD) (nv bv : Value) (w : World) (hn : IntsIn w.cell? nv x.needs) (hb : IntsIn w.cell? bv x.bars) : Calls Tryz.prog 40 #[clauseV x nv bv] w (Ret (.bool (!clauseB x)) w) := by
  have H1 := hide (fun W => isDayS_eq x.pub W)
  have H2 := hide (fun W => isSpellS_any x.sf x.st W)
  have H3 := hide (fun W => isInS_eq x.gives 0 19 W)
  have HG := hide (fun h : inB x.gives 0 19 = true => (show 0 ≤ x.gives ∧ x.gives ≤ 19 from of_decide_eq_true h))
  have H4 := hide (fun W (h : 0 ≤ x.gives ∧ x.gives ≤ 19) (hb : Below w.heap.size w W) => ascendsS_any x.needs x.gives nv W h.1 (by omega) (IntsAt.below hb hn))
  have H5 := hide (fun W (h : 0 ≤ x.gives ∧ x.gives ≤ 19) (hb' : Below w.heap.size w W) => ascendsS_any x.bars x.gives bv W h.1 (by omega) (IntsAt.below hb' hb))
  have HF : Hid (clauseB x = (dayB x.pub && spellB x.sf x.st && inB x.gives 0 19 && termsB x.needs x.gives && termsB x.bars x.gives)) := hide rfl
  generalize dayB x.pub = b1 at H1 HF
  generalize spellB x.sf x.st = b2 at H2 HF
  generalize inB x.gives 0 19 = b3 at H3 HF HG
  generalize termsB x.needs x.gives = b4 at H4 HF
  generalize termsB x.bars x.gives = b5 at H5 HF
  clear hn hb
  go_enter Tryz.func40, Tryz.ntmps40
  go_wp2_with fail
  generalize hX1 : World.alloc w _ = X1
  have zX1 : X1.heap.size = w.heap.size + 1 := by rw [← hX1]; simp
  have bX1 : Below w.heap.size w X1 := by rw [← hX1]; exact bal w _
  have bF : Blk X1 (w.heap.size) (clauseC x nv bv) 38 := by rw [← hX1]; exact Blk.newA w _ (by first | rfl | simp)
  have Xb := bX1
  have Xz := zX1
  clear hX1 zX1 bX1
  have f0 := bF.cell 0 rfl
  have f1 := bF.cell 1 rfl
  have f2 := bF.cell 2 rfl
  go_wp2_with fail
  refine (H1.out _).mono ?_
  rintro e w' ⟨rfl, hw⟩; obtain rfl := hw.symm
  cases b1
  · go_wp2_with fail
    go_ret
    exact ⟨ret_bool (by rw [HF.out]; rfl), Xb⟩
  go_wp2_with fail
  refine (H2.out _).mono ?_
  rintro e w2 ⟨rfl, hw2⟩
  have bF2 := bF.later hw2
  have X2 := below2 Xb hw2
  have f3 := bF2.cell 3 rfl
  have f4 := bF2.cell 4 rfl
  have f5 := bF2.cell 5 rfl
  cases b2
  · go_wp2_with fail
    go_ret
    exact ⟨ret_bool (by rw [HF.out]; rfl), X2⟩
  go_wp2_with fail
  refine (H3.out _).mono ?_
  rintro e w' ⟨rfl, hw⟩; obtain rfl := hw.symm
  cases b3
  · go_wp2_with fail
    go_ret
    exact ⟨ret_bool (by rw [HF.out]; rfl), X2⟩
  have hg := hide (HG.out rfl)
  go_wp2_with fail
  refine (H4.out _ hg.out X2).mono ?_
  rintro e w3 ⟨rfl, hw3⟩
  have bF3 := bF2.later hw3
  have X3 := below2 X2 hw3
  have g4 := bF3.cell 4 rfl
  have g5 := bF3.cell 5 rfl
  cases b4
  · go_wp2_with fail
    go_ret
    exact ⟨ret_bool (by rw [HF.out]; rfl), X3⟩
  go_wp2_with fail
  refine (H5.out _ hg.out X3).mono ?_
  rintro e w4 ⟨rfl, hw4⟩
  go_wp2_with fail
  go_ret
  exact ⟨ret_bool (by rw [HF.out]; cases b5 <;> rfl), below2 X3 hw4⟩
theorem any_not {α : Type} (p : α → Bool) (l : List α) : (l.any fun x => !p x) = !l.all p := by
  rw [List.all_eq_not_any_not, Bool.not_not]
theorem validS_any (c : CodeD) (cv rv fv : Value) (w : World) (h : CodeIn w.cell? cv rv fv c) : Calls Tryz.prog 17 #[codeV cv rv fv] w (Ret (.bool (validC c)) w) := by
  have HC : Hid (∀ W, Below w.heap.size w W → Calls Tryz.prog 39 #[cv, .func (.func 40) #[] #[]] W (RetI (fun W' => Below W.heap.size W W') (.bool (c.clauses.any fun x => !clauseB x)))) :=
    hide fun W hW => has_clauses (fun W' => Below W.heap.size W W') 40 #[] (Go.Proofs.enters_of Tryz.func40 (by kernel_rfl) rfl) (fun x => !clauseB x) c.clauses cv W (fun W' hb => (h.below (below2 hW hb)).cl) (Below.refl _ W) (fun W' hb x _ nv bv hn hb' => (vclause_any x nv bv W' hn hb').mono (fun e w' ⟨e1, e2⟩ => ⟨e1, below2 hb e2⟩))
  have HR : Hid (∀ W g, Below w.heap.size w W → g = w.heap.size → (hg : c.clauses.length ≤ 20) → Blk W g [cv, rv, fv] 32 → Calls Tryz.prog 45 #[rv, .func (.func 46) #[] #[.pointer (some ⟨g, 0, none⟩)]] W (RetI (fun W' => Below W.heap.size W W') (.bool (c.repeals.any fun x => !repealB c.clauses.length x)))) :=
    hide fun W g hW _ hg hB => has_repeals (fun W' => Below W.heap.size W W') 46 #[.pointer (some ⟨g, 0, none⟩)] (Go.Proofs.enters_of Tryz.func46 (by kernel_rfl) rfl) (fun x => !repealB c.clauses.length x) c.repeals rv W (fun W' hb => (h.below (below2 hW hb)).re) (Below.refl _ W) (fun W' hb x _ => by
      obtain ⟨a, n, e, -⟩ := h.cl
      exact (vrep_any x g a c.clauses.length n (by omega) W' (by rw [← e]; exact (hB.later hb).cell 0 rfl)).mono (fun e w' ⟨e1, e2⟩ => ⟨e1, below2 hb e2⟩))
  have HA : Hid (∀ W, Below w.heap.size w W → Calls Tryz.prog 47 #[fv, .func (.func 48) #[] #[]] W (RetI (fun W' => Below w.heap.size w W') (.bool (c.facts.any fun x => !factB x)))) :=
    hide fun W hW => has_facts (fun W' => Below w.heap.size w W') 48 #[] (Go.Proofs.enters_of Tryz.func48 (by kernel_rfl) rfl) (fun x => !factB x) c.facts fv W (fun W' hb => (h.below hb).fa) hW (fun W' hb x _ => (vfact_any x W').mono (fun e w' ⟨e1, e2⟩ => ⟨e1, below2 hb e2⟩))
  rw [any_not] at HC HR HA
  have HF : Hid (validC c = (decide (c.clauses.length ≤ 20) && decide (c.repeals.length ≤ 10) && decide (c.facts.length ≤ 20) && c.clauses.all clauseB && c.repeals.all (repealB c.clauses.length) && c.facts.all factB)) := hide rfl
  generalize c.clauses.all clauseB = b1 at HC HF
  generalize c.repeals.all (repealB c.clauses.length) = b2 at HR HF
  generalize c.facts.all factB = b3 at HA HF
  obtain ⟨⟨ca, cn, rfl, -, -, -⟩, ⟨ra, rn, rfl, -, -, -⟩, ⟨fa, fn, rfl, -, -, -⟩⟩ := id h
  clear h
  by_cases h1 : c.clauses.length ≤ 20
  · by_cases h2 : c.repeals.length ≤ 10
    · by_cases h3 : c.facts.length ≤ 20
      · have HE : Hid (validC c = (b1 && b2 && b3)) := hide (by rw [HF.out, decide_eq_true h1, decide_eq_true h2, decide_eq_true h3]; simp)
        go_enter Tryz.func17, Tryz.ntmps17
        go_wp2_with fail
        generalize hX1 : World.alloc w _ = X1
        have zX1 : X1.heap.size = w.heap.size + 1 := by rw [← hX1]; simp
        have bX1 : Below w.heap.size w X1 := by rw [← hX1]; exact bal w _
        have bB : Blk X1 (w.heap.size) [.slice ca c.clauses.length cn, .slice ra c.repeals.length rn, .slice fa c.facts.length fn] 32 := by rw [← hX1]; exact Blk.newA w _ (by first | rfl | simp)
        have Xb := bX1
        have Xz := zX1
        clear hX1 zX1 bX1
        have c0 := bB.cell 0 rfl
        have c1 := bB.cell 1 rfl
        have c2 := bB.cell 2 rfl
        go_wp2_with fail
        refine (HC.out _ Xb).mono ?_
        rintro e w2 ⟨rfl, hw2⟩
        have X2 := below2 Xb hw2
        have bB2 := bB.later hw2
        have c1' := bB2.cell 1 rfl
        have c2' := bB2.cell 2 rfl
        cases b1
        · go_wp2_with fail
          go_ret
          exact ⟨ret_bool (by rw [HE.out]; rfl), X2⟩
        go_wp2_with fail
        refine (HR.out _ _ X2 rfl h1 bB2).mono ?_
        rintro e w3 ⟨rfl, hw3⟩
        have X3 := below2 X2 hw3
        have c2'' := (bB2.later hw3).cell 2 rfl
        cases b2
        · go_wp2_with fail
          go_ret
          exact ⟨ret_bool (by rw [HE.out]; rfl), X3⟩
        go_wp2_with fail
        refine (HA.out _ X3).mono ?_
        rintro e w4 ⟨rfl, X4⟩
        go_wp2_with fail
        go_ret
        exact ⟨ret_bool (by rw [HE.out]; cases b3 <;> rfl), X4⟩
      · have HE : Hid (validC c = false) := hide (by rw [HF.out, decide_eq_false h3]; simp)
        go_enter Tryz.func17, Tryz.ntmps17
        go_wp2_with fail
        generalize hX1 : World.alloc w _ = X1
        have zX1 : X1.heap.size = w.heap.size + 1 := by rw [← hX1]; simp
        have bX1 : Below w.heap.size w X1 := by rw [← hX1]; exact bal w _
        have bB : Blk X1 (w.heap.size) [.slice ca c.clauses.length cn, .slice ra c.repeals.length rn, .slice fa c.facts.length fn] 32 := by rw [← hX1]; exact Blk.newA w _ (by first | rfl | simp)
        have Xb := bX1
        have Xz := zX1
        clear hX1 zX1 bX1
        have c0 := bB.cell 0 rfl
        have c1 := bB.cell 1 rfl
        have c2 := bB.cell 2 rfl
        go_wp2_with fail
        go_ret
        exact ⟨ret_bool HE.out.symm, Xb⟩
    · have HE : Hid (validC c = false) := hide (by rw [HF.out, decide_eq_false h2]; simp)
      go_enter Tryz.func17, Tryz.ntmps17
      go_wp2_with fail
      go_ret
      exact ⟨ret_bool HE.out.symm, bal _ _⟩
  · have HE : Hid (validC c = false) := hide (by rw [HF.out, decide_eq_false h1]; simp)
    go_enter Tryz.func17, Tryz.ntmps17
    go_wp2_with fail
    go_ret
    exact ⟨ret_bool HE.out.symm, bal _ _⟩
end Go.Proofs.YtdjldidfnddpmaaGreatDoor
