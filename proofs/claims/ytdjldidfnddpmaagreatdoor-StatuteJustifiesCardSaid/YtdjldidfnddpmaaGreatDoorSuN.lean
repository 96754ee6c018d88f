/- Walks of package statute: open, Check. Conditions: how the laws and the list lie in memory. -/
import Derived.Test.YtdjldidfnddpmaaGreatDoorSuM
namespace Go.Proofs.YtdjldidfnddpmaaGreatDoor
open Go.RowKit Go.Maps
theorem run_mkmapF (W : World) : (Instr.makeMap 84 none).run Tryz.prog W = .ok (.map (some W.heap.size)) (W.alloc (.map #[] 0)) := by
  simp [Instr.makeMap, go_sem]
/-- who answers, opened -/
def OpenQ (c : CodeD) (q : QueryD) (cv rv fv : Value) (w : World) (e : Ending) (w' : World) : Prop :=
  ∃ J M Fv Cv, e = .returned (.tuple #[.pointer (some ⟨J, 0, none⟩), .int .i64 (errS c q)]) ∧ Below w.heap.size w w' ∧ w.heap.size ≤ J ∧ w.heap.size ≤ M ∧ ((validC c && asksB q) = true → JudgeAt w' J M cv rv fv Fv Cv c (factsF c q) (clausesF c q) [])
set_option maxHeartbeats 1000000 in
theorem openS_any (c : CodeD) (q : QueryD) (cv rv fv : Value) (w : World) (h : CodeIn w.cell? cv rv fv c) : Calls Tryz.prog 25 #[codeV cv rv fv, queryV q] w (OpenQ c q cv rv fv w) := by
  have HA := hide (fun W (hb : Below w.heap.size w W) => appliesS_any c q cv rv fv W (h.below hb))
  have H := hide h
  have hmk : ∀ W : World, (Instr.makeMap 84 none).run Tryz.prog W = .ok (.map (some W.heap.size)) (W.alloc (.map #[] 0)) := fun W => run_mkmapF W
  have HFA : Hid ((validC c && asksB q) = true → appliesF c q = intsN (factsF c q) ∧ appliesC c q = intsN (clausesF c q)) := hide fun h1 => by unfold appliesF appliesC; rw [h1]; exact ⟨rfl, rfl⟩
  obtain ⟨⟨ca, cn, rfl, -, -, -⟩, ⟨ra, rn, rfl, -, -, -⟩, ⟨fa, fn, rfl, -, -, -⟩⟩ := id h
  clear h
  generalize appliesF c q = AF at HA HFA
  generalize appliesC c q = AC at HA HFA
  go_enter Tryz.func25, Tryz.ntmps25
  go_wp2_with fail
  generalize hX1 : World.alloc w _ = X1
  have zX1 : X1.heap.size = w.heap.size + 1 := by rw [← hX1]; simp
  have bX1 : Below w.heap.size w X1 := by rw [← hX1]; exact bal w _
  have bC_1 : Blk X1 (w.heap.size) [.slice ca c.clauses.length cn, .slice ra c.repeals.length rn, .slice fa c.facts.length fn] 32 := by rw [← hX1]; exact Blk.newA w _ (by first | rfl | simp)
  generalize hX2 : World.alloc X1 _ = X2
  have zX2 : X2.heap.size = w.heap.size + 1 + 1 := by rw [← hX2]; simp [zX1]
  have bX2 : Below X1.heap.size X1 X2 := by rw [← hX2]; exact bal X1 _
  have bQ : Blk X2 (w.heap.size + 1) (queryC q) 40 := by rw [← hX2, ← zX1]; exact Blk.newA X1 _ (by first | rfl | simp)
  have bC := bC_1.later bX2
  have Xb := below2 (bX1) bX2
  have Xz := zX2
  clear hX1 zX1 bX1 hX2 zX2 bX2 bC_1
  have c0 := bC.cell 0 rfl
  have c1 := bC.cell 1 rfl
  have c2 := bC.cell 2 rfl
  have q0 := bQ.cell 0 rfl
  have q1 := bQ.cell 1 rfl
  have q2 := bQ.cell 2 rfl
  have q3 := bQ.cell 3 rfl
  refine (HA.out _ Xb).mono ?_
  rintro e w2 ⟨Fv, Cv, rfl, hF, hC, hw2⟩
  obtain ⟨Fa, Fn, rfl, -⟩ := id hF
  obtain ⟨Ca, Cn, rfl, -⟩ := id hC
  have bC2 := bC.later hw2
  have X2 := below2 Xb hw2
  have c0 := bC2.cell 0 rfl
  have c1 := bC2.cell 1 rfl
  have c2 := bC2.cell 2 rfl
  have HF := hide hF.at
  have HC := hide hC.at
  clear hF hC q0 q1 q2 q3 bC bC2 bQ
  go_wp2_with fail
  generalize hW3 : World.alloc w2 _ = W3
  generalize hW4 : World.alloc W3 _ = W4
  have z3 : W3.heap.size = w2.heap.size + 1 := by rw [← hW3]; simp
  have b3 : Below w2.heap.size w2 W3 := by rw [← hW3]; exact bal w2 _
  have b4 : Below W3.heap.size W3 W4 := by rw [← hW4]; exact bal W3 _
  have hM3 : ∀ f, OwnF f W3 w2.heap.size 0 [] := fun f => by rw [← hW3]; exact OwnF.made f w2
  have bJ : Blk W4 W3.heap.size [.slice ca c.clauses.length cn, .slice ra c.repeals.length rn, .slice fa c.facts.length fn, .slice Fa AF.length Fn, .slice Ca AC.length Cn, .map (some w2.heap.size)] 86 := by rw [← hW4]; exact Blk.new W3 _ _
  have HB := hide (below2 (below2 X2 b3) b4)
  have HZ := hide z3
  have HS := hide X2.size
  have b34 := below2 b3 b4
  rw [z3] at bJ
  have HJ := hide bJ
  have HM := hide (fun f => (hM3 f).later b4)
  have HH := hide (below2 (below2 Xb hw2) b34)
  have HF4 := hide (HF.out.keeps (keeps_of_below b34))
  have HC4 := hide (HC.out.keeps (keeps_of_below b34))
  clear hW3 hW4 z3 b3 b4 hM3 bJ b34 c0 c1 c2
  go_wp2_with fail
  go_ret2
  refine ⟨w2.heap.size + 1, w2.heap.size, .slice Fa AF.length Fn, .slice Ca AC.length Cn, rfl, HB.out, by have := HS.out; omega, HS.out, fun hv => ?_⟩
  obtain ⟨e1, e2⟩ := HFA.out hv
  subst e1 e2
  exact ⟨H.out.below HH.out, HF4.out, HC4.out, HJ.out, HM.out _, List.nodup_nil, fun k hk => by cases hk⟩
/-- the list proves the answer -/
theorem checkS_any (c : CodeD) (q : QueryD) (cv rv fv lv : Value) (h : Bool) (l : List FindD) (w : World) (hc : CodeIn w.cell? cv rv fv c) (hl : FindsIn w.cell? lv l) : Calls Tryz.prog 15 #[codeV cv rv fv, queryV q, .bool h, lv] w (Ret (.bool (checkB c q h l)) w) := by
  have HO := hide (fun W (hb : Below w.heap.size w W) => openS_any c q cv rv fv W (hc.below hb))
  have HL := hide hl
  have HE : Hid (checkB c q h l = (validC c && asksB q && provesB c (factsF c q) (clausesF c q) q.says h l)) := hide rfl
  have HR : Hid (errS c q = if validC c && asksB q then 0 else 310) := hide rfl
  have HP := hide (fun hV J M Fv Cv W ks (hJ : JudgeAt W J M cv rv fv Fv Cv c (factsF c q) (clausesF c q) ks) (hl : FindsIn W.cell? lv l) => proves_any J M cv rv fv Fv Cv lv c _ _ hV (fun _ hi => (factsF_lt hi).1) (fun _ hi => (clausesF_lt hi).1) q.says h l W ks hJ hl)
  obtain ⟨⟨ca, cn, rfl, -, -, -⟩, ⟨ra, rn, rfl, -, -, -⟩, ⟨fa, fn, rfl, -, -, -⟩⟩ := id hc
  obtain ⟨la, ln, rfl, -⟩ := id hl
  clear hc hl
  generalize provesB c (factsF c q) (clausesF c q) q.says h l = PB at HE HP
  generalize checkB c q h l = CB at HE ⊢
  go_enter Tryz.func15, Tryz.ntmps15
  go_wp2_with fail
  generalize hX1 : World.alloc w _ = X1
  have zX1 : X1.heap.size = w.heap.size + 1 := by rw [← hX1]; simp
  have bX1 : Below w.heap.size w X1 := by rw [← hX1]; exact bal w _
  have bC_1 : Blk X1 (w.heap.size) [.slice ca c.clauses.length cn, .slice ra c.repeals.length rn, .slice fa c.facts.length fn] 32 := by rw [← hX1]; exact Blk.newA w _ (by first | rfl | simp)
  generalize hX2 : World.alloc X1 _ = X2
  have zX2 : X2.heap.size = w.heap.size + 1 + 1 := by rw [← hX2]; simp [zX1]
  have bX2 : Below X1.heap.size X1 X2 := by rw [← hX2]; exact bal X1 _
  have bQ : Blk X2 (w.heap.size + 1) (queryC q) 40 := by rw [← hX2, ← zX1]; exact Blk.newA X1 _ (by first | rfl | simp)
  have bC := bC_1.later bX2
  have Xb := below2 (bX1) bX2
  have Xz := zX2
  clear hX1 zX1 bX1 hX2 zX2 bX2 bC_1
  have c0 := bC.cell 0 rfl
  have c1 := bC.cell 1 rfl
  have c2 := bC.cell 2 rfl
  have q0 := bQ.cell 0 rfl
  have q1 := bQ.cell 1 rfl
  have q2 := bQ.cell 2 rfl
  have q3 := bQ.cell 3 rfl
  refine (HO.out _ Xb).mono ?_
  rintro e w2 ⟨J, M, Fv, Cv, rfl, hw2, -, -, hJ⟩
  have X2 := below2 Xb hw2
  have bQ2 := bQ.later hw2
  have q1 := bQ2.cell 1 rfl
  cases hv : (validC c && asksB q)
  · rw [hv] at HR HE
    have e1 : errS c q = 310 := HR.out
    rw [e1]
    clear hv hJ c0 c1 c2 q0 q2 q3 e1
    go_wp2_with fail
    go_ret
    exact ⟨ret_bool (by rw [HE.out]; rfl), X2⟩
  · rw [hv] at HR HE
    have e1 : errS c q = 0 := HR.out
    rw [e1]
    have HC := hide (HP.out (by rw [Bool.and_eq_true] at hv; exact hv.1) J M Fv Cv w2 [] (hJ hv) (HL.out.below X2))
    clear hv hJ c0 c1 c2 q0 q2 q3 e1
    go_wp2_with fail
    refine HC.out.mono ?_
    rintro e w3 ⟨rfl, hw3⟩
    go_wp2_with fail
    go_ret
    exact ⟨ret_bool (by rw [HE.out]; rfl), below2 X2 hw3⟩
end Go.Proofs.YtdjldidfnddpmaaGreatDoor
