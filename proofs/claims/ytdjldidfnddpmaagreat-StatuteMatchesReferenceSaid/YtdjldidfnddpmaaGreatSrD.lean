/- The walk of the reference's Applies (chapter 31). Conditions: how the laws lie in memory. -/
import Derived.Test.YtdjldidfnddpmaaGreatSrC
import Derived.Test.YtdjldidfnddpmaaGreatStV
namespace Go.Proofs.YtdjldidfnddpmaaGreat
open Go.RowKit
theorem upTo_yes {p : Nat → Bool} {k : Nat} (h : p k = true) : upTo p k ++ [(k : Int)] = upTo p (k + 1) := by rw [upTo_succ, if_pos h]
set_option maxRecDepth 100000 in
set_option maxHeartbeats 4000000 in
theorem appliesr_any (c : CodeD) (q : QueryD) (cv rv fv : Value) (w : World) (h : CodeIn w.cell? cv rv fv c) : Calls Tryz.prog 14 #[codeV cv rv fv, queryV q] w (Ret3 (appliesF c q) (appliesC c q) (errS c q) w) := by
  have HV := hide (fun W (hb : Below w.heap.size w W) => validr_any c cv rv fv W (h.below hb))
  have HA := hide (fun W => asksr_any q W)
  obtain ⟨P, hP⟩ : ∃ P : Nat → Bool, (fun i => statesB (c.facts.getD i fact0) q) = P := ⟨_, rfl⟩
  obtain ⟨R, hR⟩ : ∃ R : Nat → Bool, (fun i => rulesB c i q) = R := ⟨_, rfl⟩
  have HP := hide (fun i => congrFun hP i)
  have HR := hide (fun i => congrFun hR i)
  have HQ : Hid (validC c = true → asksB q = true → appliesF c q = upTo P c.facts.length ∧ appliesC c q = upTo R c.clauses.length ∧ errS c q = 0) := hide fun h1 h2 => by
    unfold appliesF appliesC errS; rw [h1, h2, ← hP, ← hR]; exact ⟨rfl, rfl, rfl⟩
  have HN : Hid ((validC c && asksB q) = false → appliesF c q = [] ∧ appliesC c q = [] ∧ errS c q = 310) := hide fun h1 => by
    unfold appliesF appliesC errS; rw [h1]; exact ⟨rfl, rfl, rfl⟩
  clear hP hR
  generalize appliesF c q = AF at HQ HN ⊢
  generalize appliesC c q = AC at HQ HN ⊢
  generalize errS c q = AE at HQ HN ⊢
  have H := hide h
  obtain ⟨⟨ca, cn, rfl, -, -, -⟩, ⟨ra, rn, rfl, -, -, -⟩, ⟨fa, fn, rfl, hf1, hf2, -⟩⟩ := id h
  clear h
  go_enter Tryz.func14, Tryz.ntmps14
  go_wp2_with fail
  generalize hX1 : World.alloc w _ = X1
  have zX1 : X1.heap.size = w.heap.size + 1 := by rw [← hX1]; simp
  have bX1 : Below w.heap.size w X1 := by rw [← hX1]; exact bal w _
  have bC_1 : Blk X1 (w.heap.size) [.slice ca c.clauses.length cn, .slice ra c.repeals.length rn, .slice fa c.facts.length fn] 30 := by rw [← hX1]; exact Blk.newA w _ (by first | rfl | simp)
  generalize hX2 : World.alloc X1 _ = X2
  have zX2 : X2.heap.size = w.heap.size + 1 + 1 := by rw [← hX2]; simp [zX1]
  have bX2 : Below X1.heap.size X1 X2 := by rw [← hX2]; exact bal X1 _
  have bQ : Blk X2 (w.heap.size + 1) (queryC q) 33 := by rw [← hX2, ← zX1]; exact Blk.newA X1 _ (by first | rfl | simp)
  have bC := bC_1.later bX2
  have Xb := below2 (bX1) bX2
  have Xz := zX2
  clear hX1 zX1 bX1 hX2 zX2 bX2 bC_1
  have c0 := bC.cell 0 rfl
  have c1 := bC.cell 1 rfl
  have c2 := bC.cell 2 rfl
  go_wp2_with fail
  refine (HV.out _ Xb).mono ?_
  rintro e w2 ⟨rfl, hw2⟩
  have X2 := below2 Xb hw2
  have bQ2 := bQ.later hw2
  have q0 := bQ2.cell 0 rfl
  have q1 := bQ2.cell 1 rfl
  have q2 := bQ2.cell 2 rfl
  have q3 := bQ2.cell 3 rfl
  cases hv : validC c
  · obtain ⟨rfl, rfl, rfl⟩ := HN.out (by rw [hv]; rfl)
    clear hv
    go_wp2_with fail
    go_ret3
    exact ⟨_, _, rfl, IntsIn.nil _, IntsIn.nil _, X2⟩
  have HVV := hide hv
  clear hv
  go_wp2_with fail
  refine (HA.out _).mono ?_
  rintro e w3 ⟨rfl, hw3⟩
  have X3 := below2 X2 hw3
  cases hq : asksB q
  · obtain ⟨rfl, rfl, rfl⟩ := HN.out (by rw [HVV.out, hq]; rfl)
    clear hq
    go_wp2_with fail
    go_ret3
    exact ⟨_, _, rfl, IntsIn.nil _, IntsIn.nil _, X3⟩
  obtain ⟨rfl, rfl, rfl⟩ := HQ.out HVV.out hq
  clear hq
  have bC3 := (bC.later hw2).later hw3
  have bQ3 := bQ2.later hw3
  have hl1 : c.facts.length ≤ 20 := by have hv := HVV.out; simp only [validC, Bool.and_eq_true, decide_eq_true_eq] at hv; exact hv.1.1.1.2
  have hl2 : c.clauses.length ≤ 20 := by have hv := HVV.out; simp only [validC, Bool.and_eq_true, decide_eq_true_eq] at hv; exact hv.1.1.1.1.1
  clear c0 c1 c2 q0 q1 q2 q3
  go_wp2_with fail
  go_loopw [7, 8] (fun v i wr => ∃ (k : Nat), k ≤ c.facts.length ∧ i = .int .i64 k ∧ OwnI wr w3.heap.size v (upTo P k) ∧ Below w3.heap.size w3 wr) (fun _ i _ => c.facts.length - (intOf i).toNat)
  case atStart => exact ⟨0, by omega, rfl, OwnI.nil _ _, Below.refl _ _⟩
  case round =>
    obtain ⟨k, hk, rfl, hown, hbr⟩ := hrel
    have bCr := bC3.later hbr
    have g2 := bCr.cell 2 rfl
    by_cases hlt : k < c.facts.length
    · have HK := hide hlt
      have hltI : (k : Int) < c.facts.length := by omega
      have Xr := below2 X3 hbr
      obtain ⟨fb, fo, e, hcf⟩ := ((H.out.below Xr).fa).cell hlt
      cases e
      have bQr := bQ3.later hbr
      have HS := hide (fun W => factr_any (c.facts.getD k fact0) q W)
      rw [show statesB (c.facts.getD k fact0) q = P k from HP.out k] at HS
      have HT := hide (fun h => upTo_yes (p := P) (k := k) h)
      have HU := hide (fun h => upTo_not (p := P) (k := k) h)
      have hln := upTo_len P k
      have q0 := bwc (bQr.cell 0 rfl)
      have q1 := bwc (bQr.cell 1 rfl)
      have q2 := bwc (bQr.cell 2 rfl)
      have q3 := bwc (bQr.cell 3 rfl)
      have g2b := bwc g2
      generalize c.facts.getD k fact0 = x at hcf HS
      have f0 := bwc (show wr.cell? ⟨fb, fo + k * 6, none⟩ = some (.int .i64 x.thing) from hcf 0 _ rfl)
      have f1 := bwc (show wr.cell? ⟨fb, fo + k * 6 + 1, none⟩ = some (.int .i64 x.says) from hcf 1 _ rfl)
      have f2 := bwc (show wr.cell? ⟨fb, fo + k * 6 + 2, none⟩ = some (.int .i64 x.sf) from hcf 2 _ rfl)
      have f3 := bwc (show wr.cell? ⟨fb, fo + k * 6 + 3, none⟩ = some (.int .i64 x.st) from hcf 3 _ rfl)
      have f4 := bwc (show wr.cell? ⟨fb, fo + k * 6 + 4, none⟩ = some (.int .i64 x.kf) from hcf 4 _ rfl)
      have f5 := bwc (show wr.cell? ⟨fb, fo + k * 6 + 5, none⟩ = some (.int .i64 x.kt) from hcf 5 _ rfl)
      clear hcf
      go_wp2_with fail
      refine wp_region_bw (by kernel_rfl) (by kernel_rfl) ?_
      repeat (go_big_quiet_step ((go_at_call 53; exact quiet (HS.out _))))
      refine wpQuiet_nil ?_
      rintro _ ⟨ix, rfl⟩
      have hb4 := ix.h
      generalize ix.W = w4 at hb4 ⊢
      have own4 := hown.later hb4
      have B4 := below2 hbr hb4
      have hs4 := B4.size
      clear q0 q1 q2 q3 g2b f0 f1 f2 f3 f4 f5 g2 hown
      obtain ⟨pa, pc, rfl⟩ := own4.form
      generalize hup : upTo P k = up at *
      cases hp : P k
      · have HU2 := hide (HU.out hp)
        clear hp hup
        go_wp2_with fail
        go_roundw
        case rel => exact ⟨k + 1, by have := HK.out; omega, by go_num, by rw [← HU2.out]; exact own4, B4⟩
        case measure => have := HK.out; simp [intOf]; omega
      · have HT2 := hide (HT.out hp)
        clear hp hup
        go_wp2_with (at_builtin; refine app_int rfl _ _ rfl w3.heap.size _ _ rfl own4 (k : Int) rfl (by omega) hs4 ?_; intro v2 w2 hO2 hb2 hs2)
        have HO2 := hide hO2
        have B5 := B4.trans hb2
        clear hO2 hb2
        go_roundw
        case rel => exact ⟨k + 1, by have := HK.out; omega, by go_num, by rw [← HT2.out]; exact HO2.out, B5⟩
        case measure => have := HK.out; simp [intOf]; omega
    · obtain rfl : k = c.facts.length := by omega
      have Xr := below2 X3 hbr
      have bC4 := bC3.later hbr
      have bQ4 := bQ3.later hbr
      obtain ⟨pa, pc, rfl⟩ := hown.form
      have HOW := hide hown
      generalize (upTo P c.facts.length).length = pl at *
      clear hown
      go_wp2_with fail
      obtain ⟨wf, rfl⟩ : ∃ wf, wf = wr := ⟨_, rfl⟩
      go_loopw [9, 10] (fun v i wz => ∃ (k : Nat), k ≤ c.clauses.length ∧ i = .int .i64 k ∧ OwnI wz wf.heap.size v (upTo R k) ∧ Below wf.heap.size wf wz) (fun _ i _ => c.clauses.length - (intOf i).toNat)
      case atStart => exact ⟨0, by omega, rfl, OwnI.nil _ _, Below.refl _ _⟩
      case round =>
        obtain ⟨k, hk, rfl, hown2, hbz⟩ := hrel
        have bCz := bC4.later hbz
        have g0 := bCz.cell 0 rfl
        by_cases hlt2 : k < c.clauses.length
        · have HK := hide hlt2
          have hltI : (k : Int) < c.clauses.length := by omega
          have Xz := below2 Xr hbz
          have bQz := bQ4.later hbz
          have HS := hide (fun W (hb : Below w.heap.size w W) => clauser_any c k q _ _ _ W (H.out.below hb) hlt2)
          rw [show rulesB c k q = R k from HR.out k] at HS
          have HT := hide (fun h => upTo_yes (p := R) (k := k) h)
          have HU := hide (fun h => upTo_not (p := R) (k := k) h)
          have hln := upTo_len R k
          have g1 := bCz.cell 1 rfl
          have g2' := bCz.cell 2 rfl
          have q0 := bQz.cell 0 rfl
          have q1 := bQz.cell 1 rfl
          have q2 := bQz.cell 2 rfl
          have q3 := bQz.cell 3 rfl
          go_wp2_with fail
          refine (HS.out _ Xz).mono ?_
          rintro e w4 ⟨rfl, hw4⟩
          have own4 := hown2.later hw4
          have B4 := below2 hbz hw4
          have hs4 := B4.size
          obtain ⟨pa2, pc2, rfl⟩ := own4.form
          clear hown2 g0 g1 g2' q0 q1 q2 q3 hw4
          generalize hup : upTo R k = up at *
          cases hp : R k
          · have HU2 := hide (HU.out hp)
            clear hp hup
            go_wp2_with fail
            go_roundw
            case rel => exact ⟨k + 1, by have := HK.out; omega, by go_num, by rw [← HU2.out]; exact own4, B4⟩
            case measure => have := HK.out; simp [intOf]; omega
          · have HT2 := hide (HT.out hp)
            clear hp hup
            go_wp2_with (at_builtin; refine app_int rfl _ _ rfl wf.heap.size _ _ rfl own4 (k : Int) rfl (by omega) hs4 ?_; intro v2 w2 hO2 hb2 hs2)
            have HO2 := hide hO2
            have B5 := B4.trans hb2
            clear hO2 hb2
            go_roundw
            case rel => exact ⟨k + 1, by have := HK.out; omega, by go_num, by rw [← HT2.out]; exact HO2.out, B5⟩
            case measure => have := HK.out; simp [intOf]; omega
        · obtain rfl : k = c.clauses.length := by omega
          have own1 := HOW.out.later hbz
          have hwf := below2 Xr hbz
          obtain ⟨pa2, pc2, rfl⟩ := hown2.form
          have HO2 := hide hown2
          generalize (upTo R c.clauses.length).length = pl2 at *
          clear hown2
          go_wp2_with fail
          go_ret3
          exact ⟨_, _, rfl, own1.intsF X3.size, HO2.out.intsF Xr.size, hwf⟩
end Go.Proofs.YtdjldidfnddpmaaGreat
