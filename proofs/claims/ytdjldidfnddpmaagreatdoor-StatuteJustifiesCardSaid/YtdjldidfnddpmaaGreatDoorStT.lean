/- Walks of package statute: rules. Conditions: how valid laws lie in memory; the clause's index is in its range. -/
import Derived.Test.YtdjldidfnddpmaaGreatDoorStS
namespace Go.Proofs.YtdjldidfnddpmaaGreatDoor
open Go.RowKit
set_option maxHeartbeats 400000
theorem spellB_le {f t : Int} (h : spellB f t = true) : 0 ≤ f ∧ f ≤ 799999 ∧ f < t ∧ t ≤ 800000 := by
  simp only [spellB, dayB, inB, Bool.and_eq_true, decide_eq_true_eq] at h
  omega
theorem valid_clause {c : CodeD} (hV : validC c = true) {i : Nat} (hi : i < c.clauses.length) : clauseB (c.clauses.getD i clause0) = true := by
  simp only [validC, Bool.and_eq_true, List.all_eq_true] at hV
  exact hV.1.1.2 _ (getD_mem c.clauses i (d := clause0) hi)
theorem valid_fact {c : CodeD} (hV : validC c = true) {i : Nat} (hi : i < c.facts.length) : factB (c.facts.getD i fact0) = true := by
  simp only [validC, Bool.and_eq_true, List.all_eq_true] at hV
  exact hV.2 _ (getD_mem c.facts i (d := fact0) hi)
theorem clause_spell {x : ClauseD} (h : clauseB x = true) : x.sf < x.st ∧ 0 ≤ x.sf ∧ x.st ≤ 800000 := by
  simp only [clauseB, Bool.and_eq_true] at h
  have := spellB_le h.1.1.1.2; omega
theorem fact_spell {x : FactD} (h : factB x = true) : (x.sf < x.st ∧ 0 ≤ x.sf ∧ x.st ≤ 800000) ∧ x.kf < x.kt ∧ 0 ≤ x.kf ∧ x.kt ≤ 800000 := by
  simp only [factB, Bool.and_eq_true] at h
  have h1 := spellB_le h.1.2; have h2 := spellB_le h.2; omega
theorem rulesS_any (c : CodeD) (i : Nat) (q : QueryD) (cv rv fv : Value) (w : World) (h : CodeIn w.cell? cv rv fv c) (hV : validC c = true) (hi : i < c.clauses.length) : Calls Tryz.prog 24 #[codeV cv rv fv, .int .i64 i, queryV q] w (Ret (.bool (rulesB c i q)) w) := by
  have hs := clause_spell (valid_clause hV hi)
  have hl20 : c.clauses.length ≤ 20 := by simp only [validC, Bool.and_eq_true, decide_eq_true_eq] at hV; exact hV.1.1.1.1.1
  have HS := hide (fun W => hasS_any (c.clauses.getD i clause0).sf (c.clauses.getD i clause0).st q.day W (by omega) (by omega))
  have HR : Hid (∀ W bi bq, Below w.heap.size w W → Blk W bi [.int .i64 i] 3 → Blk W bq (queryC q) 40 → Calls Tryz.prog 45 #[rv, .func (.func 52) #[] #[.pointer (some ⟨bi, 0, none⟩), .pointer (some ⟨bq, 0, none⟩)]] W (RetI (fun W' => Below W.heap.size W W') (.bool (c.repeals.any (repealsB i q))))) :=
    hide fun W bi bq hW hI hQ => has_repeals (fun W' => Below W.heap.size W W') 52 #[.pointer (some ⟨bi, 0, none⟩), .pointer (some ⟨bq, 0, none⟩)] (Go.Proofs.enters_of Tryz.func52 (by kernel_rfl) rfl) (repealsB i q) c.repeals rv W (fun W' hb => (h.below (below2 hW hb)).re) (Below.refl _ W) (fun W' hb x _ =>
      (rulesc_any x i q bi bq W' (hI.later hb) (hQ.later hb)).mono (fun e w' ⟨e1, e2⟩ => ⟨e1, below2 hb e2⟩))
  have HF : Hid (rulesB c i q = (decide ((c.clauses.getD i clause0).pub ≤ q.known) && hasD (c.clauses.getD i clause0).sf (c.clauses.getD i clause0).st q.day && !c.repeals.any (repealsB i q))) := hide rfl
  generalize c.repeals.any (repealsB i q) = b2 at HR HF
  generalize hasD (c.clauses.getD i clause0).sf (c.clauses.getD i clause0).st q.day = b1 at HS HF
  obtain ⟨⟨ca, cn, rfl, hc1, hc2, hcc⟩, ⟨ra, rn, rfl, -, -, -⟩, ⟨fa, fn, rfl, -, -, -⟩⟩ := id h
  obtain ⟨cb, co, nv, bv, rfl, hcl⟩ := hcc i hi
  obtain ⟨na, nc, rfl, -⟩ := id hcl.2.2.2.2.2.2.1
  obtain ⟨ba, bc, rfl, -⟩ := id hcl.2.2.2.2.2.2.2
  clear h hs hcc hV
  have hA := hide (fun (W : World) (hb : Below w.heap.size w W) => hcl.keeps (keeps_of_below hb))
  clear hcl
  generalize c.clauses.getD i clause0 = x at HS HF hA
  have hl : (c.clauses.length : Int) ≤ 9223372036854775807 := by omega
  have kb : ∀ o1 o2 o3, Below w.heap.size w (((w.alloc o1).alloc o2).alloc o3) := fun o1 o2 o3 => below2 (below2 (bal w o1) (bal _ o2)) (bal _ o3)
  have a0 := fun o1 o2 o3 => (hA.out _ (kb o1 o2 o3)).1
  have a1 := fun o1 o2 o3 => (hA.out _ (kb o1 o2 o3)).2.1
  have a2 := fun o1 o2 o3 => (hA.out _ (kb o1 o2 o3)).2.2.1
  have a3 := fun o1 o2 o3 => (hA.out _ (kb o1 o2 o3)).2.2.2.1
  have a4 := fun o1 o2 o3 => (hA.out _ (kb o1 o2 o3)).2.2.2.2.1
  have a5 := fun o1 o2 o3 => (hA.out _ (kb o1 o2 o3)).2.2.2.2.2.1
  clear kb hA
  by_cases e : x.pub ≤ q.known
  · have HE := hide (decide_eq_true e)
    go_enter Tryz.func24, Tryz.ntmps24
    go_wp2_with fail
    clear a0 a1 a2 a3 a4 a5
    generalize hX1 : World.alloc w _ = X1
    have zX1 : X1.heap.size = w.heap.size + 1 := by rw [← hX1]; simp
    have bX1 : Below w.heap.size w X1 := by rw [← hX1]; exact bal w _
    have bC_1 : Blk X1 (w.heap.size) [.slice (some ⟨cb, co, none⟩) c.clauses.length cn, .slice ra c.repeals.length rn, .slice fa c.facts.length fn] 32 := by rw [← hX1]; exact Blk.newA w _ (by first | rfl | simp)
    generalize hX2 : World.alloc X1 _ = X2
    have zX2 : X2.heap.size = w.heap.size + 1 + 1 := by rw [← hX2]; simp [zX1]
    have bX2 : Below X1.heap.size X1 X2 := by rw [← hX2]; exact bal X1 _
    have bI_2 : Blk X2 (w.heap.size + 1) [.int .i64 i] 3 := by rw [← hX2, ← zX1]; exact Blk.newA X1 _ (by first | rfl | simp)
    have bC_2 := bC_1.later bX2
    generalize hX3 : World.alloc X2 _ = X3
    have zX3 : X3.heap.size = w.heap.size + 1 + 1 + 1 := by rw [← hX3]; simp [zX2]
    have bX3 : Below X2.heap.size X2 X3 := by rw [← hX3]; exact bal X2 _
    have bQ_3 : Blk X3 (w.heap.size + 1 + 1) (queryC q) 40 := by rw [← hX3, ← zX2]; exact Blk.newA X2 _ (by first | rfl | simp)
    have bC_3 := bC_2.later bX3
    have bI_3 := bI_2.later bX3
    generalize hX4 : World.alloc X3 _ = X4
    have zX4 : X4.heap.size = w.heap.size + 1 + 1 + 1 + 1 := by rw [← hX4]; simp [zX3]
    have bX4 : Below X3.heap.size X3 X4 := by rw [← hX4]; exact bal X3 _
    have bX : Blk X4 (w.heap.size + 1 + 1 + 1) (clauseC x (.slice na x.needs.length nc) (.slice ba x.bars.length bc)) 38 := by rw [← hX4, ← zX3]; exact Blk.newA X3 _ (by first | rfl | simp)
    have bC := bC_3.later bX4
    have bI := bI_3.later bX4
    have bQ := bQ_3.later bX4
    have Xb := below2 (below2 (below2 (bX1) bX2) bX3) bX4
    have Xz := zX4
    clear hX1 zX1 bX1 hX2 zX2 bX2 hX3 zX3 bX3 hX4 zX4 bX4 bC_1 bC_2 bC_3 bI_2 bI_3 bQ_3
    refine (HS.out _).mono ?_
    rintro e w2 ⟨rfl, hw2⟩
    have X2 := below2 Xb hw2
    have r1 := (bC.later hw2).cell 1 rfl
    cases b1
    · go_wp2_with fail
      go_ret
      exact ⟨ret_bool (by rw [HF.out, HE.out]; rfl), X2⟩
    go_wp2_with fail
    refine (HR.out _ _ _ X2 (bI.later hw2) (bQ.later hw2)).mono ?_
    rintro e w3 ⟨rfl, hw3⟩
    go_wp2_with fail
    go_ret
    exact ⟨ret_bool (by rw [HF.out, HE.out]; rfl), below2 X2 hw3⟩
  · have HE := hide (decide_eq_false e)
    go_enter Tryz.func24, Tryz.ntmps24
    go_wp2_with fail
    clear a0 a1 a2 a3 a4 a5
    generalize hX1 : World.alloc w _ = X1
    have zX1 : X1.heap.size = w.heap.size + 1 := by rw [← hX1]; simp
    have bX1 : Below w.heap.size w X1 := by rw [← hX1]; exact bal w _
    have bC_1 : Blk X1 (w.heap.size) [.slice (some ⟨cb, co, none⟩) c.clauses.length cn, .slice ra c.repeals.length rn, .slice fa c.facts.length fn] 32 := by rw [← hX1]; exact Blk.newA w _ (by first | rfl | simp)
    generalize hX2 : World.alloc X1 _ = X2
    have zX2 : X2.heap.size = w.heap.size + 1 + 1 := by rw [← hX2]; simp [zX1]
    have bX2 : Below X1.heap.size X1 X2 := by rw [← hX2]; exact bal X1 _
    have bI_2 : Blk X2 (w.heap.size + 1) [.int .i64 i] 3 := by rw [← hX2, ← zX1]; exact Blk.newA X1 _ (by first | rfl | simp)
    have bC_2 := bC_1.later bX2
    generalize hX3 : World.alloc X2 _ = X3
    have zX3 : X3.heap.size = w.heap.size + 1 + 1 + 1 := by rw [← hX3]; simp [zX2]
    have bX3 : Below X2.heap.size X2 X3 := by rw [← hX3]; exact bal X2 _
    have bQ_3 : Blk X3 (w.heap.size + 1 + 1) (queryC q) 40 := by rw [← hX3, ← zX2]; exact Blk.newA X2 _ (by first | rfl | simp)
    have bC_3 := bC_2.later bX3
    have bI_3 := bI_2.later bX3
    generalize hX4 : World.alloc X3 _ = X4
    have zX4 : X4.heap.size = w.heap.size + 1 + 1 + 1 + 1 := by rw [← hX4]; simp [zX3]
    have bX4 : Below X3.heap.size X3 X4 := by rw [← hX4]; exact bal X3 _
    have bX : Blk X4 (w.heap.size + 1 + 1 + 1) (clauseC x (.slice na x.needs.length nc) (.slice ba x.bars.length bc)) 38 := by rw [← hX4, ← zX3]; exact Blk.newA X3 _ (by first | rfl | simp)
    have bC := bC_3.later bX4
    have bI := bI_3.later bX4
    have bQ := bQ_3.later bX4
    have Xb := below2 (below2 (below2 (bX1) bX2) bX3) bX4
    have Xz := zX4
    clear hX1 zX1 bX1 hX2 zX2 bX2 hX3 zX3 bX3 hX4 zX4 bX4 bC_1 bC_2 bC_3 bI_2 bI_3 bQ_3
    go_ret
    exact ⟨ret_bool (by rw [HF.out, HE.out]; rfl), Xb⟩
end Go.Proofs.YtdjldidfnddpmaaGreatDoor
