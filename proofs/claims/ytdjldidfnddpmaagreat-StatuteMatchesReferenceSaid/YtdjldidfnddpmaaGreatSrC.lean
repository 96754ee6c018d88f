/- The walk of the reference's Valid (chapter 31). Conditions: how the laws lie in memory. -/
import Derived.Test.YtdjldidfnddpmaaGreatSrB
namespace Go.Proofs.YtdjldidfnddpmaaGreat
open Go.RowKit
theorem all_succ' {α : Type} {l : List α} {p : α → Bool} {d : α} {k : Nat} (hk : k < l.length) (h : (l.take k).all p = true) (h2 : p (l.getD k d) = true) : (l.take (k + 1)).all p = true := by
  rw [take_succ' l k d hk, List.all_append, h]; simp only [List.all_cons, List.all_nil, h2, Bool.and_true]
theorem all_no' {α : Type} {l : List α} {p : α → Bool} {d : α} {k : Nat} (hk : k < l.length) (h2 : p (l.getD k d) = false) : l.all p = false := by
  rw [Bool.eq_false_iff, Ne, List.all_eq_true]
  intro h
  have := h _ (getD_mem l k hk (d := d))
  rw [h2] at this; cases this
set_option maxRecDepth 100000 in
set_option maxHeartbeats 4000000 in
theorem validr_any (c : CodeD) (cv rv fv : Value) (w : World) (h : CodeIn w.cell? cv rv fv c) : Calls Tryz.prog 9 #[codeV cv rv fv] w (Ret (.bool (validC c)) w) := by
  have HC := hide h
  obtain ⟨⟨ca, cn, rfl, hc1, hc2, -⟩, ⟨ra, rn, rfl, hr1, hr2, -⟩, ⟨fa, fn, rfl, hf1, hf2, -⟩⟩ := id h
  have HR : Hid (validC c = (decide (c.clauses.length ≤ 20) && decide (c.repeals.length ≤ 10) && decide (c.facts.length ≤ 20) && c.clauses.all clauseB && c.repeals.all (repealB c.clauses.length) && c.facts.all factB)) := hide rfl
  have HN1 := hide (fun k hk => all_no' (l := c.clauses) (p := clauseB) (d := clause0) (k := k) hk)
  have HN2 := hide (fun k hk => all_no' (l := c.repeals) (p := repealB c.clauses.length) (d := repeal0) (k := k) hk)
  have HN3 := hide (fun k hk => all_no' (l := c.facts) (p := factB) (d := fact0) (k := k) hk)
  have HY1 : Hid ((c.clauses.take c.clauses.length).all clauseB = true → c.clauses.all clauseB = true) := hide (fun h => by rwa [List.take_length] at h)
  have HY2 : Hid ((c.repeals.take c.repeals.length).all (repealB c.clauses.length) = true → c.repeals.all (repealB c.clauses.length) = true) := hide (fun h => by rwa [List.take_length] at h)
  have HY3 : Hid ((c.facts.take c.facts.length).all factB = true → c.facts.all factB = true) := hide (fun h => by rwa [List.take_length] at h)
  generalize validC c = R at HR ⊢
  generalize c.clauses.all clauseB = A1 at *
  generalize c.repeals.all (repealB c.clauses.length) = A2 at *
  generalize c.facts.all factB = A3 at *
  have hcl : (c.clauses.length : Int) ≤ 9223372036854775807 := by omega
  have hrl : (c.repeals.length : Int) ≤ 9223372036854775807 := by omega
  have hfl : (c.facts.length : Int) ≤ 9223372036854775807 := by omega
  have ww : IntKind.i64.wrap ((c.clauses.length : Int) - 1) = (c.clauses.length : Int) - 1 := IntWalk.i64_in _ (by omega)
  clear h hc1 hc2 hr1 hr2 hf1 hf2
  go_enter Tryz.func9, Tryz.ntmps9
  go_wp2_with fail
  generalize hX1 : World.alloc w _ = X1
  have zX1 : X1.heap.size = w.heap.size + 1 := by rw [← hX1]; simp
  have bX1 : Below w.heap.size w X1 := by rw [← hX1]; exact bal w _
  have bC0 : Blk X1 (w.heap.size) [.slice ca c.clauses.length cn, .slice ra c.repeals.length rn, .slice fa c.facts.length fn] 30 := by rw [← hX1]; exact Blk.newA w _ (by first | rfl | simp)
  have Xb := bX1
  have Xz := zX1
  clear hX1 zX1 bX1
  go_loopw [3] (fun j wr => ∃ k : Nat, k ≤ c.clauses.length ∧ j = .int .i64 k ∧ Hid ((c.clauses.take k).all clauseB = true) ∧ Blk wr w.heap.size [.slice ca c.clauses.length cn, .slice ra c.repeals.length rn, .slice fa c.facts.length fn] 30 ∧ Below w.heap.size w wr) (fun j _ => c.clauses.length - (intOf j).toNat)
  case atStart => exact ⟨0, by omega, rfl, hide rfl, bC0, Xb⟩
  case round =>
    obtain ⟨k, hk, rfl, HM, bC, hbr⟩ := hrel
    have g0 := bC.cell 0 rfl
    by_cases hlt : k < c.clauses.length
    · have HK := hide hlt
      have hltI : (k : Int) < c.clauses.length := by omega
      obtain ⟨a', n', e', -, -, hcc⟩ := (HC.out.below hbr).cl
      cases e'
      obtain ⟨kb, ko, nv, bv, rfl, k0, k1, k2, k3, k4, k5, hn, hbs⟩ := hcc k hlt
      have HYY := hide (fun h => all_succ' (d := clause0) hlt HM.out h)
      have HNO := hide (fun h => show R = false by rw [HR.out, HN1.out k hlt h]; simp)
      obtain ⟨na, nn, rfl, -⟩ := id hn
      obtain ⟨ba, bn, rfl, -⟩ := id hbs
      generalize c.clauses.getD k clause0 = y at HYY HNO k0 k1 k2 k3 k4 k5 hn hbs
      have HB : Hid (clauseB y = (dayB y.pub && spellB y.sf y.st && inB y.gives 0 19 && termsB y.needs y.gives && termsB y.bars y.gives)) := hide rfl
      have HG := hide (fun h : inB y.gives 0 19 = true => inB_iff.1 h)
      have H1 := hide (fun W => dayr_any y.pub W)
      have H2 := hide (fun W => spellr_any y.sf y.st W)
      have H3 := hide (fun W => inr_any y.gives 0 19 W)
      have H4 := hide (fun W (hb : Below wr.heap.size wr W) h0 h1 => termsr_any y.needs y.gives _ W (IntsAt.below hb hn) h0 h1)
      have H5 := hide (fun W (hb : Below wr.heap.size wr W) h0 h1 => termsr_any y.bars y.gives _ W (IntsAt.below hb hbs) h0 h1)
      generalize clauseB y = cb at HB HYY HNO
      generalize dayB y.pub = b1 at *
      generalize spellB y.sf y.st = b2 at *
      generalize inB y.gives 0 19 = b3 at *
      generalize termsB y.needs y.gives = b4 at *
      generalize termsB y.bars y.gives = b5 at *
      clear hcc hn hbs
      go_wp2_with fail
      generalize hY1 : World.alloc wr _ = Y1
      have zY1 : Y1.heap.size = wr.heap.size + 1 := by rw [← hY1]; simp
      have bY1 : Below wr.heap.size wr Y1 := by rw [← hY1]; exact bal wr _
      have bY : Blk Y1 (wr.heap.size) (clauseC y (.slice na y.needs.length nn) (.slice ba y.bars.length bn)) 67 := by rw [← hY1]; exact Blk.newA wr _ (by first | rfl | simp)
      have Yb := bY1
      have Yz := zY1
      clear hY1 zY1 bY1
      have hyb := Yb
      replace bC := bC.later Yb
      replace hbr := below2 hbr Yb
      clear Yb Yz k0 k1 k2 k3 k4 k5 g0
      refine (H1.out _).mono ?_
      rintro e w1 ⟨rfl, hbx⟩
      replace hyb := below2 hyb hbx
      replace bY := bY.later hbx
      replace bC := bC.later hbx
      replace hbr := below2 hbr hbx
      clear hbx
      cases b1
      · have HF := hide (HNO.out (by rw [HB.out]; rfl))
        go_wp2_with fail
        go_ret
        exact ⟨by rw [HF.out]; rfl, hbr⟩
      · have t1 := bY.cell 1 rfl
        have t2 := bY.cell 2 rfl
        go_wp2_with fail
        refine (H2.out _).mono ?_
        rintro e w2 ⟨rfl, hbx⟩
        replace hyb := below2 hyb hbx
        replace bY := bY.later hbx
        replace bC := bC.later hbx
        replace hbr := below2 hbr hbx
        clear hbx t1 t2
        cases b2
        · have HF := hide (HNO.out (by rw [HB.out]; rfl))
          go_wp2_with fail
          go_ret
          exact ⟨by rw [HF.out]; rfl, hbr⟩
        · have t5 := bY.cell 5 rfl
          go_wp2_with fail
          refine (H3.out _).mono ?_
          rintro e w3 ⟨rfl, hbx⟩
          replace hyb := below2 hyb hbx
          replace bY := bY.later hbx
          replace bC := bC.later hbx
          replace hbr := below2 hbr hbx
          clear hbx t5
          cases b3
          · have HF := hide (HNO.out (by rw [HB.out]; rfl))
            go_wp2_with fail
            go_ret
            exact ⟨by rw [HF.out]; rfl, hbr⟩
          · obtain ⟨hg0, hg1⟩ := HG.out rfl
            have t3 := bY.cell 3 rfl
            have t5 := bY.cell 5 rfl
            go_wp2_with fail
            refine (H4.out _ hyb hg0 (by omega)).mono ?_
            rintro e w4 ⟨rfl, hbx⟩
            replace hyb := below2 hyb hbx
            replace bY := bY.later hbx
            replace bC := bC.later hbx
            replace hbr := below2 hbr hbx
            clear hbx t3 t5
            cases b4
            · have HF := hide (HNO.out (by rw [HB.out]; rfl))
              go_wp2_with fail
              go_ret
              exact ⟨by rw [HF.out]; rfl, hbr⟩
            · have t4 := bY.cell 4 rfl
              have t5 := bY.cell 5 rfl
              go_wp2_with fail
              refine (H5.out _ hyb hg0 (by omega)).mono ?_
              rintro e w5 ⟨rfl, hbx⟩
              replace hyb := below2 hyb hbx
              replace bC := bC.later hbx
              replace hbr := below2 hbr hbx
              clear hbx t4 t5
              cases b5
              · have HF := hide (HNO.out (by rw [HB.out]; rfl))
                go_wp2_with fail
                go_ret
                exact ⟨by rw [HF.out]; rfl, hbr⟩
              · have HY9 := hide (HYY.out (by rw [HB.out]; rfl))
                go_wp2_with fail
                go_roundw
                case rel => exact ⟨k + 1, by have := HK.out; omega, by go_num, HY9, bC, hbr⟩
                case measure => have := HK.out; simp [intOf]; omega
    · obtain rfl : k = c.clauses.length := by omega
      have HA1 := hide (HY1.out HM.out)
      have HB1 := hide hbr
      have HC1 := hide bC
      clear hbr bC bC0 Xb Xz hk hlt
      go_wp2_with fail
      go_loopw [5] (fun j wz => ∃ k : Nat, k ≤ c.repeals.length ∧ j = .int .i64 k ∧ Hid ((c.repeals.take k).all (repealB c.clauses.length) = true) ∧ Blk wz w.heap.size [.slice ca c.clauses.length cn, .slice ra c.repeals.length rn, .slice fa c.facts.length fn] 30 ∧ Below w.heap.size w wz) (fun j _ => c.repeals.length - (intOf j).toNat)
      case atStart => exact ⟨0, by omega, rfl, hide rfl, HC1.out, HB1.out⟩
      case round =>
        obtain ⟨k, hk, rfl, HM, bC, hbr⟩ := hrel
        have g1 := bC.cell 1 rfl
        by_cases hlt : k < c.repeals.length
        · have HK := hide hlt
          have hltI : (k : Int) < c.repeals.length := by omega
          obtain ⟨rb, ro, e, hck⟩ := (HC.out.re.below hbr).cell hlt
          cases e
          have HYY := hide (fun h => all_succ' (d := repeal0) hlt HM.out h)
          have HNO := hide (fun h => show R = false by rw [HR.out, HN2.out k hlt h]; simp)
          generalize c.repeals.getD k repeal0 = y at HYY HNO hck
          have k0 := hck 0 _ rfl
          have k1 := hck 1 _ rfl
          have k2 := hck 2 _ rfl
          rw [Nat.add_zero] at k0
          have HB : Hid (repealB c.clauses.length y = (inB y.clause 0 (c.clauses.length - 1) && dayB y.pub && dayB y.from_)) := hide rfl
          have H1 := hide (fun W => inr_any y.clause 0 ((c.clauses.length : Int) - 1) W)
          have H2 := hide (fun W => dayr_any y.pub W)
          have H3 := hide (fun W => dayr_any y.from_ W)
          generalize repealB c.clauses.length y = cb at HB HYY HNO
          generalize inB y.clause 0 ((c.clauses.length : Int) - 1) = b1 at *
          generalize dayB y.pub = b2 at *
          generalize dayB y.from_ = b3 at *
          clear hck
          have g0 := fun o => keep (bal _ o) (bC.cell 0 rfl)
          go_wp2_with fail
          generalize hY1 : World.alloc wr _ = Y1
          have zY1 : Y1.heap.size = wr.heap.size + 1 := by rw [← hY1]; simp
          have bY1 : Below wr.heap.size wr Y1 := by rw [← hY1]; exact bal wr _
          have bY : Blk Y1 (wr.heap.size) (repealC y) 60 := by rw [← hY1]; exact Blk.newA wr _ (by first | rfl | simp)
          have Yb := bY1
          have Yz := zY1
          clear hY1 zY1 bY1
          replace bC := bC.later Yb
          replace hbr := below2 hbr Yb
          clear Yb Yz k0 k1 k2 g1 g0
          refine (H1.out _).mono ?_
          rintro e w1 ⟨rfl, hbx⟩
          replace bY := bY.later hbx
          replace bC := bC.later hbx
          replace hbr := below2 hbr hbx
          clear hbx
          cases b1
          · have HF := hide (HNO.out (by rw [HB.out]; rfl))
            go_wp2_with fail
            go_ret
            exact ⟨by rw [HF.out]; rfl, hbr⟩
          · have t1 := bY.cell 1 rfl
            go_wp2_with fail
            refine (H2.out _).mono ?_
            rintro e w2 ⟨rfl, hbx⟩
            replace bY := bY.later hbx
            replace bC := bC.later hbx
            replace hbr := below2 hbr hbx
            clear hbx t1
            cases b2
            · have HF := hide (HNO.out (by rw [HB.out]; rfl))
              go_wp2_with fail
              go_ret
              exact ⟨by rw [HF.out]; rfl, hbr⟩
            · have t2 := bY.cell 2 rfl
              go_wp2_with fail
              refine (H3.out _).mono ?_
              rintro e w3 ⟨rfl, hbx⟩
              replace bC := bC.later hbx
              replace hbr := below2 hbr hbx
              clear hbx t2
              cases b3
              · have HF := hide (HNO.out (by rw [HB.out]; rfl))
                go_wp2_with fail
                go_ret
                exact ⟨by rw [HF.out]; rfl, hbr⟩
              · have HY9 := hide (HYY.out (by rw [HB.out]; rfl))
                go_wp2_with fail
                go_roundw
                case rel => exact ⟨k + 1, by have := HK.out; omega, by go_num, HY9, bC, hbr⟩
                case measure => have := HK.out; simp [intOf]; omega
        · obtain rfl : k = c.repeals.length := by omega
          have HA2 := hide (HY2.out HM.out)
          have HB2 := hide hbr
          have HC2 := hide bC
          clear hbr bC hk hlt
          go_wp2_with fail
          go_loopw [7] (fun j wy => ∃ k : Nat, k ≤ c.facts.length ∧ j = .int .i64 k ∧ Hid ((c.facts.take k).all factB = true) ∧ Blk wy w.heap.size [.slice ca c.clauses.length cn, .slice ra c.repeals.length rn, .slice fa c.facts.length fn] 30 ∧ Below w.heap.size w wy) (fun j _ => c.facts.length - (intOf j).toNat)
          case atStart => exact ⟨0, by omega, rfl, hide rfl, HC2.out, HB2.out⟩
          case round =>
            obtain ⟨k, hk, rfl, HM, bC, hbr⟩ := hrel
            have g2 := bC.cell 2 rfl
            by_cases hlt : k < c.facts.length
            · have HK := hide hlt
              have hltI : (k : Int) < c.facts.length := by omega
              obtain ⟨rb, ro, e, hck⟩ := (HC.out.fa.below hbr).cell hlt
              cases e
              have HYY := hide (fun h => all_succ' (d := fact0) hlt HM.out h)
              have HNO := hide (fun h => show R = false by rw [HR.out, HN3.out k hlt h]; simp)
              generalize c.facts.getD k fact0 = y at HYY HNO hck
              have k0 := hck 0 _ rfl
              have k1 := hck 1 _ rfl
              have k2 := hck 2 _ rfl
              have k3 := hck 3 _ rfl
              have k4 := hck 4 _ rfl
              have k5 := hck 5 _ rfl
              rw [Nat.add_zero] at k0
              have HB : Hid (factB y = (inB y.thing 0 99 && inB y.says 0 19 && spellB y.sf y.st && spellB y.kf y.kt)) := hide rfl
              have H1 := hide (fun W => inr_any y.thing 0 99 W)
              have H2 := hide (fun W => inr_any y.says 0 19 W)
              have H3 := hide (fun W => spellr_any y.sf y.st W)
              have H4 := hide (fun W => spellr_any y.kf y.kt W)
              generalize factB y = cb at HB HYY HNO
              generalize inB y.thing 0 99 = b1 at *
              generalize inB y.says 0 19 = b2 at *
              generalize spellB y.sf y.st = b3 at *
              generalize spellB y.kf y.kt = b4 at *
              clear hck
              go_wp2_with fail
              generalize hY1 : World.alloc wr _ = Y1
              have zY1 : Y1.heap.size = wr.heap.size + 1 := by rw [← hY1]; simp
              have bY1 : Below wr.heap.size wr Y1 := by rw [← hY1]; exact bal wr _
              have bY : Blk Y1 (wr.heap.size) (factC y) 74 := by rw [← hY1]; exact Blk.newA wr _ (by first | rfl | simp)
              have Yb := bY1
              have Yz := zY1
              clear hY1 zY1 bY1
              replace bC := bC.later Yb
              replace hbr := below2 hbr Yb
              clear Yb Yz k0 k1 k2 k3 k4 k5 g2
              refine (H1.out _).mono ?_
              rintro e w1 ⟨rfl, hbx⟩
              replace bY := bY.later hbx
              replace bC := bC.later hbx
              replace hbr := below2 hbr hbx
              clear hbx
              cases b1
              · have HF := hide (HNO.out (by rw [HB.out]; rfl))
                go_wp2_with fail
                go_ret
                exact ⟨by rw [HF.out]; rfl, hbr⟩
              · have t1 := bY.cell 1 rfl
                go_wp2_with fail
                refine (H2.out _).mono ?_
                rintro e w2 ⟨rfl, hbx⟩
                replace bY := bY.later hbx
                replace bC := bC.later hbx
                replace hbr := below2 hbr hbx
                clear hbx t1
                cases b2
                · have HF := hide (HNO.out (by rw [HB.out]; rfl))
                  go_wp2_with fail
                  go_ret
                  exact ⟨by rw [HF.out]; rfl, hbr⟩
                · have t2 := bY.cell 2 rfl
                  have t3 := bY.cell 3 rfl
                  go_wp2_with fail
                  refine (H3.out _).mono ?_
                  rintro e w3 ⟨rfl, hbx⟩
                  replace bY := bY.later hbx
                  replace bC := bC.later hbx
                  replace hbr := below2 hbr hbx
                  clear hbx t2 t3
                  cases b3
                  · have HF := hide (HNO.out (by rw [HB.out]; rfl))
                    go_wp2_with fail
                    go_ret
                    exact ⟨by rw [HF.out]; rfl, hbr⟩
                  · have t4 := bY.cell 4 rfl
                    have t5 := bY.cell 5 rfl
                    go_wp2_with fail
                    refine (H4.out _).mono ?_
                    rintro e w4 ⟨rfl, hbx⟩
                    replace bC := bC.later hbx
                    replace hbr := below2 hbr hbx
                    clear hbx t4 t5
                    cases b4
                    · have HF := hide (HNO.out (by rw [HB.out]; rfl))
                      go_wp2_with fail
                      go_ret
                      exact ⟨by rw [HF.out]; rfl, hbr⟩
                    · have HY9 := hide (HYY.out (by rw [HB.out]; rfl))
                      go_wp2_with fail
                      go_roundw
                      case rel => exact ⟨k + 1, by have := HK.out; omega, by go_num, HY9, bC, hbr⟩
                      case measure => have := HK.out; simp [intOf]; omega
            · obtain rfl : k = c.facts.length := by omega
              have HA3 := hide (HY3.out HM.out)
              have HR2 : Hid (R = (decide (c.clauses.length ≤ 20) && decide (c.repeals.length ≤ 10) && decide (c.facts.length ≤ 20))) := hide (by rw [HR.out, HA1.out, HA2.out, HA3.out]; simp)
              have g0 := bC.cell 0 rfl
              have g1 := bC.cell 1 rfl
              by_cases e1 : c.clauses.length ≤ 20
              · have d1 : decide ((c.clauses.length : Int) ≤ 20) = true := decide_eq_true (by omega)
                have d1' := decT e1
                by_cases e2 : c.repeals.length ≤ 10
                · have d2 : decide ((c.repeals.length : Int) ≤ 10) = true := decide_eq_true (by omega)
                  have d2' := decT e2
                  by_cases e3 : c.facts.length ≤ 20
                  · have d3 : decide ((c.facts.length : Int) ≤ 20) = true := decide_eq_true (by omega)
                    have HF : Hid (R = true) := hide (by rw [HR2.out, d1', d2', decT e3]; rfl)
                    have d3' := decT e3
                    go_wp2_with fail
                    go_ret
                    exact ⟨by rw [HF.out]; rfl, hbr⟩
                  · have d3 : decide ((c.facts.length : Int) ≤ 20) = false := decide_eq_false (by omega)
                    have HF : Hid (R = false) := hide (by rw [HR2.out, d1', d2', decF e3]; rfl)
                    have d3' := decF e3
                    go_wp2_with fail
                    go_ret
                    exact ⟨by rw [HF.out]; rfl, hbr⟩
                · have d2 : decide ((c.repeals.length : Int) ≤ 10) = false := decide_eq_false (by omega)
                  have HF : Hid (R = false) := hide (by rw [HR2.out, d1', decF e2]; rfl)
                  have d2' := decF e2
                  go_wp2_with fail
                  go_ret
                  exact ⟨by rw [HF.out]; rfl, hbr⟩
              · have d1 : decide ((c.clauses.length : Int) ≤ 20) = false := decide_eq_false (by omega)
                have HF : Hid (R = false) := hide (by rw [HR2.out, decF e1]; rfl)
                have d1' := decF e1
                go_wp2_with fail
                go_ret
                exact ⟨by rw [HF.out]; rfl, hbr⟩
end Go.Proofs.YtdjldidfnddpmaaGreat
