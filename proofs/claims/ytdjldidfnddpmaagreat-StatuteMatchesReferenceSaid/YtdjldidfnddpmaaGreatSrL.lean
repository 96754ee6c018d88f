/- The walk of the reference's Answer (chapter 31). Conditions: how the laws lie in memory. -/
import Derived.Test.YtdjldidfnddpmaaGreatSrF
namespace Go.Proofs.YtdjldidfnddpmaaGreat
open Go.RowKit
def AnsQ (c : CodeD) (q : QueryD) (w : World) (e : Ending) (w' : World) : Prop :=
  e = .returned (.tuple #[.bool (validC c && asksB q && answerB c q), .int .i64 (errS c q)]) ∧ Below w.heap.size w w'
theorem there_new (w : World) : (w.alloc (.cells (soL fun _ => false).toArray 95)).there w.heap.size 0 20 := fun j hj => by
  have hb := Blk.new w (soL fun _ => false) 95
  rw [Nat.zero_add]
  refine ⟨?_, hb.frozen j⟩
  rw [hb.cell j (soL_get (fun _ => false) j hj)]; rfl
theorem setLs_full : ∀ (vs ys zs : List Value), vs.length = zs.length → setLs (ys ++ zs) ys.length vs = ys ++ vs
  | [], ys, [], _ => by simp [setLs]
  | [], _, _ :: _, h => by simp at h
  | _ :: _, _, [], h => by simp at h
  | v :: r, ys, z :: zs, h => by
    have e : (ys ++ z :: zs).set ys.length v = (ys ++ [v]) ++ zs := by simp
    show setLs ((ys ++ z :: zs).set ys.length v) (ys.length + 1) r = _
    rw [e, show ys.length + 1 = (ys ++ [v]).length by simp, setLs_full r (ys ++ [v]) zs (by simpa using h)]
    simp
theorem setLs_so (S S' : Nat → Bool) : setLs (soL S') 0 (soL S) = soL S := setLs_full (soL S) [] (soL S') rfl
theorem blk_newS (w : World) (S : Nat → Bool) : Blk ((w.alloc (.cells (soL fun _ => false).toArray 95)).setCells w.heap.size 0 (soL S)) w.heap.size (soL S) 95 := by
  have h := Blk.setCells (vs := soL S) (o := 0) (Blk.new w (soL fun _ => false) 95)
  rw [setLs_so] at h
  exact h
set_option maxRecDepth 100000 in
set_option maxHeartbeats 4000000 in
theorem answerr_any (c : CodeD) (q : QueryD) (cv rv fv : Value) (w : World) (h : CodeIn w.cell? cv rv fv c) : Calls Tryz.prog 12 #[codeV cv rv fv, queryV q] w (AnsQ c q w) := by
  have HVA := hide (fun W (hb : Below w.heap.size w W) => validr_any c cv rv fv W (h.below hb))
  have HAS := hide (fun W => asksr_any q W)
  have HSO := hide (fun W (hb : Below w.heap.size w W) hv => sor_any c q cv rv fv W (h.below hb) hv)
  have HQ := hide (fun hq : asksB q = true => asks_says hq)
  have HAN : Hid (∀ n : Nat, validC c = true → q.says = n → n < 20 → answerB c q = soF c q 20 n) := hide (fun n hv hs hn => by
    unfold answerB soF
    rw [soR_get hv hn, hs])
  have HE1 : Hid ((validC c && asksB q) = false → errS c q = 310) := hide (fun h => by unfold errS; rw [h]; rfl)
  have HE2 : Hid ((validC c && asksB q) = true → errS c q = 0) := hide (fun h => by unfold errS; rw [h]; rfl)
  have HPO : Hid (AnsQ c q w = fun e w' => e = .returned (.tuple #[.bool (validC c && asksB q && answerB c q), .int .i64 (errS c q)]) ∧ Below w.heap.size w w') := hide rfl
  rw [HPO.out]
  generalize validC c = vc at *
  generalize asksB q = ac at *
  generalize errS c q = er at *
  generalize answerB c q = an at *
  generalize soF c q 20 = S at *
  obtain ⟨⟨ca, cn, rfl, -, -, -⟩, ⟨ra, rn, rfl, -, -, -⟩, ⟨fa, fn, rfl, -, -, -⟩⟩ := id h
  clear h HPO
  go_enter Tryz.func12, Tryz.ntmps12
  go_wp2_with fail
  generalize hX1 : World.alloc w _ = X1
  have zX1 : X1.heap.size = w.heap.size + 1 := by rw [← hX1]; simp
  have bX1 : Below w.heap.size w X1 := by rw [← hX1]; exact bal w _
  have bC_1 : Blk X1 (w.heap.size) [.slice ca c.clauses.length cn, .slice ra c.repeals.length rn, .slice fa c.facts.length fn] 30 := by rw [← hX1]; exact Blk.newA w _ (by first | rfl | simp)
  generalize hX2 : World.alloc X1 _ = X2
  have zX2 : X2.heap.size = w.heap.size + 1 + 1 := by rw [← hX2]; simp [zX1]
  have bX2 : Below X1.heap.size X1 X2 := by rw [← hX2]; exact bal X1 _
  have bQ : Blk X2 (w.heap.size + 1) (queryC q) 33 := by rw [← hX2, ← zX1]; exact Blk.newA X1 _ (by first | rfl | simp)
  have bC := bC_1.later bX2
  have Xb := below2 (bX1) bX2
  have Xz := zX2
  clear hX1 zX1 bX1 hX2 zX2 bX2 bC_1
  have c0 := bC.cell 0 rfl
  have c1 := bC.cell 1 rfl
  have c2 := bC.cell 2 rfl
  go_wp2_with fail
  refine (HVA.out _ Xb).mono ?_
  rintro e w1 ⟨rfl, hb1⟩
  have hw1 := below2 Xb hb1
  replace bC := bC.later hb1
  replace bQ := bQ.later hb1
  clear c0 c1 c2 hb1 Xb Xz
  cases vc
  · have HF := hide (HE1.out rfl)
    go_wp2_with fail
    go_ret2
    exact ⟨by rw [HF.out]; rfl, hw1⟩
  · have q0 := bQ.cell 0 rfl
    have q1 := bQ.cell 1 rfl
    have q2 := bQ.cell 2 rfl
    have q3 := bQ.cell 3 rfl
    go_wp2_with fail
    refine (HAS.out _).mono ?_
    rintro e w2 ⟨rfl, hb2⟩
    have hw2 := below2 hw1 hb2
    replace bC := bC.later hb2
    replace bQ := bQ.later hb2
    clear q0 q1 q2 q3 hb2
    cases ac
    · have HF := hide (HE1.out rfl)
      go_wp2_with fail
      go_ret2
      exact ⟨by rw [HF.out]; rfl, hw2⟩
    · have HF := hide (HE2.out rfl)
      obtain ⟨s0, s1⟩ := HQ.out rfl
      obtain ⟨n, hn⟩ : ∃ n : Nat, q.says = n := ⟨q.says.toNat, by omega⟩
      have hn20 : n < 20 := by omega
      have hn20I : (n : Int) < 20 := by omega
      have HA := hide (HAN.out n (by first | rfl | trivial) hn hn20)
      have c0 := bC.cell 0 rfl
      have c1 := bC.cell 1 rfl
      have c2 := bC.cell 2 rfl
      have q0 := bQ.cell 0 rfl
      have q1 := bQ.cell 1 rfl
      have q2 := bQ.cell 2 rfl
      have q3 := bQ.cell 3 rfl
      have HN := hide hn
      clear s0 s1 hn
      go_wp2_with fail
      refine (HSO.out _ hw2 (by first | rfl | trivial)).mono ?_
      rintro e w3 ⟨he, hb3⟩
      obtain ⟨V, hV⟩ : ∃ V, soV S = V := ⟨_, rfl⟩
      rw [hV] at he
      subst he
      have HV : Hid (V = .agg (soL S).toArray) := hide hV.symm
      have hw3 := below2 hw2 hb3
      have q1' := (bQ.later hb3).cell 1 rfl
      have HTH := hide (there_new w3)
      have hz2 := blk_newS w3 S
      have hwz := Below.setCellsB (vs := soL S) (o := 0) (Nat.le_refl _) (bal w3 (.cells (soL fun _ => false).toArray 95))
      have qz : ((w3.alloc (.cells (soL fun _ => false).toArray 95)).setCells w3.heap.size 0 (soL S)).cell? ⟨w.heap.size + 1, 1, none⟩ = some (.int .i64 (n : Int)) := by rw [← HN.out]; exact keep hwz q1'
      have sz := Blk.cell hz2 n (soL_get S n hn20)
      have HWZ := hide (below2 hw3 hwz)
      have HQZ := hide (And.intro qz sz)
      clear c0 c1 c2 q0 q1 q2 q3 hV hz2 hwz q1' qz sz bC bQ
      go_wp2_with (refine wpList_store_mid rfl 95 _ _ rfl w3.heap.size 0 (soL S).toArray rfl HV.out HTH.out (by kernel_rfl) (by simp [Value.oneCell']) ?_; obtain ⟨WZ, hWZ⟩ : ∃ Z, Z = World.setCells (w3.alloc (.cells (soL fun _ => false).toArray 95)) w3.heap.size 0 (soL S) := ⟨_, rfl⟩; have HWZ' : Hid (Below w.heap.size w WZ) := hide (by rw [hWZ]; exact HWZ.out); have qz : WZ.cell? ⟨w.heap.size + 1, 1, none⟩ = some (.int .i64 (n : Int)) := (by rw [hWZ]; exact HQZ.out.1); have sz : WZ.cell? ⟨w3.heap.size, n, none⟩ = some (.bool (S n)) := (by rw [hWZ]; exact HQZ.out.2); show wpList _ _ _ _ _ (World.setCells (w3.alloc (.cells (soL fun _ => false).toArray 95)) w3.heap.size 0 (soL S)); rw [← hWZ]; clear hWZ HWZ HQZ HTH HV)
      trace_state
      go_ret2
      exact ⟨by rw [HF.out, HA.out]; rfl, HWZ'.out⟩
end Go.Proofs.YtdjldidfnddpmaaGreat
