/- Walks of the reference of chapter 31: terms, Clause. Conditions: how the arguments lie in memory. -/
import Derived.Test.YtdjldidfnddpmaaGreatSrA
namespace Go.Proofs.YtdjldidfnddpmaaGreat
open Go.RowKit
theorem allr_succ {p : Nat → Bool} {k : Nat} (h : (List.range k).all p = true) (hk : p k = true) : (List.range (k + 1)).all p = true := by
  rw [List.range_succ, List.all_append, h]; simp [hk]
theorem allr_no {p : Nat → Bool} {k n : Nat} (hk : k < n) (h : p k = false) : (List.range n).all p = false := by
  rw [Bool.eq_false_iff, Ne, List.all_eq_true]
  intro h2
  have := h2 k (List.mem_range.2 hk)
  rw [h] at this; cases this
set_option maxRecDepth 100000 in
set_option maxHeartbeats 2000000 in
theorem termsr_any (l : List Int) (below : Int) (v : Value) (w : World) (hv : IntsIn w.cell? v l) (hb0 : 0 ≤ below) (hb1 : below ≤ 100) : Calls Tryz.prog 43 #[v, .int .i64 below] w (Ret (.bool (termsB l below)) w) := by
  have HV := hide hv
  obtain ⟨a, m, rfl, hm1, hm2, -⟩ := id hv
  have HE := hide (terms_same l below)
  have HT := hide (fun k => show termR l below k = (inB (l.getD k 0) 0 (below - 1) && (decide (k = 0) || decide (l.getD (k - 1) 0 < l.getD k 0))) from rfl)
  generalize termsB l below = R at HE ⊢
  generalize termR l below = p at HE HT
  have ww : IntKind.i64.wrap (below - 1) = below - 1 := IntWalk.i64_in _ (by omega)
  have hlI : (l.length : Int) ≤ 9223372036854775807 := by omega
  clear hv
  go_enter Tryz.func43, Tryz.ntmps43
  go_wp2_with fail
  go_loopw [5] (fun i wr => ∃ k : Nat, k ≤ l.length ∧ i = .int .i64 k ∧ Hid ((List.range k).all p = true) ∧ Below w.heap.size w wr) (fun i _ => l.length - (intOf i).toNat)
  case atStart => exact ⟨0, by omega, rfl, hide rfl, Below.refl _ _⟩
  case round =>
    obtain ⟨k, hk, rfl, HM, hbr⟩ := hrel
    by_cases hlt : k < l.length
    · have HK := hide hlt
      have hltI : (k : Int) < l.length := by omega
      obtain ⟨a', m', e', -, -, hc⟩ := HV.out
      cases e'
      obtain ⟨b, o, rfl, hckw⟩ := hc k hlt
      have HTK := hide (HT.out k)
      have HPV : Hid (∀ j, k = j + 1 → w.cell? ⟨b, o + j, none⟩ = some (.int .i64 (l.getD j 0)) ∧ l.getD (k - 1) 0 = l.getD j 0) := hide (fun j e => by
        subst e
        obtain ⟨b2, o2, e2, h2⟩ := hc j (by omega)
        cases e2
        exact ⟨h2, rfl⟩)
      have HN := hide (fun h : p k = false => allr_no hlt h)
      have HY := hide (fun h : p k = true => allr_succ HM.out h)
      generalize p k = pk at HTK HN HY
      generalize l.getD k 0 = x at hckw HTK
      generalize l.getD (k - 1) 0 = pv at HTK HPV
      have HIN := hide (fun W => inr_any x 0 (below - 1) W)
      generalize inB x 0 (below - 1) = ib at HIN HTK
      have ck := bwc (keep hbr hckw)
      clear hc hckw
      cases ib
      · have HF : Hid (R = false) := hide (by rw [← HE.out, HN.out (by rw [HTK.out]; rfl)]; rfl)
        clear HPV
        go_wp2_with fail
        refine wp_region_bw (by kernel_rfl) (by kernel_rfl) ?_
        repeat (go_big_quiet_step ((go_at_call 42; exact quiet (HIN.out _))))
        refine wpQuiet_nil ?_
        rintro _ ⟨i, rfl⟩
        go_wp2_with fail
        go_ret
        exact ⟨by rw [HF.out]; rfl, below2 hbr i.h⟩
      · rcases Nat.eq_zero_or_pos k with hk0 | hk0
        · have hk1 : decide ((0 : Int) < k) = false := decide_eq_false (by omega)
          have hk2 : decide (0 < k) = false := decide_eq_false (by omega)
          have HY2 := hide (HY.out (by rw [HTK.out, hk0]; rfl))
          clear HPV hk0
          go_wp2_with fail
          refine wp_region_bw (by kernel_rfl) (by kernel_rfl) ?_
          repeat (go_big_quiet_step ((go_at_call 42; exact quiet (HIN.out _))))
          refine wpQuiet_nil ?_
          rintro _ ⟨i, rfl⟩
          go_wp2_with fail
          go_roundw
          case rel => exact ⟨k + 1, by have := HK.out; omega, by go_num, HY2, below2 hbr i.h⟩
          case measure => have := HK.out; simp [intOf]; omega
        · obtain ⟨j, ej⟩ : ∃ j, k = j + 1 := ⟨k - 1, by omega⟩
          obtain ⟨hpc, hpe⟩ := HPV.out j ej
          rw [← hpe] at hpc
          have kp := bwc (keep hbr hpc)
          have hjl : j < l.length := by omega
          have hjlI : (j : Int) < l.length := by omega
          have hk1 : decide ((0 : Int) < k) = true := decide_eq_true (by omega)
          have hk2 : decide (0 < k) = true := decide_eq_true (by omega)
          have hkz : Hid (decide (k = 0) = false) := hide (decide_eq_false (by omega))
          have ekj : (k : Int) - 1 = j := by omega
          clear HPV ej hk0 hpc hpe
          by_cases hle : x ≤ pv
          · have d1 := decT hle
            have HF : Hid (R = false) := hide (by rw [← HE.out, HN.out (by rw [HTK.out, hkz.out, decide_eq_false (show ¬ pv < x by omega)]; rfl)]; rfl)
            go_wp2_with fail
            refine wp_region_bw (by kernel_rfl) (by kernel_rfl) ?_
            repeat (go_big_quiet_step ((go_at_call 42; exact quiet (HIN.out _))))
            refine wpQuiet_nil ?_
            rintro _ ⟨i, rfl⟩
            go_wp2_with fail
            go_ret
            exact ⟨by rw [HF.out]; rfl, below2 hbr i.h⟩
          · have d1 := decF hle
            have HY2 := hide (HY.out (by rw [HTK.out, hkz.out, decide_eq_true (show pv < x by omega)]; rfl))
            clear hle
            go_wp2_with fail
            refine wp_region_bw (by kernel_rfl) (by kernel_rfl) ?_
            repeat (go_big_quiet_step ((go_at_call 42; exact quiet (HIN.out _))))
            refine wpQuiet_nil ?_
            rintro _ ⟨i, rfl⟩
            clear ekj
            go_wp2_with fail
            go_roundw
            case rel => exact ⟨k + 1, by have := HK.out; omega, by go_num, HY2, below2 hbr i.h⟩
            case measure => have := HK.out; simp [intOf]; omega
    · obtain rfl : k = l.length := by omega
      have HE2 : Hid (R = decide (l.length ≤ 4)) := hide (by rw [← HE.out, HM.out]; rfl)
      by_cases h4 : l.length ≤ 4
      · have d1 := decT h4
        have d2 : decide ((l.length : Int) ≤ 4) = true := decide_eq_true (by omega)
        have HF : Hid (R = true) := hide (by rw [HE2.out, d1])
        go_wp2_with fail
        go_ret
        exact ⟨by rw [HF.out]; rfl, hbr⟩
      · have d1 := decF h4
        have d2 : decide ((l.length : Int) ≤ 4) = false := decide_eq_false (by omega)
        have HF : Hid (R = false) := hide (by rw [HE2.out, d1])
        go_wp2_with fail
        go_ret
        exact ⟨by rw [HF.out]; rfl, hbr⟩
theorem any_succ' {α : Type} {l : List α} {p : α → Bool} {d : α} {k : Nat} (hk : k < l.length) (h : (l.take k).any p = false) (h2 : p (l.getD k d) = false) : (l.take (k + 1)).any p = false := by
  rw [take_succ' l k d hk, List.any_append, h]; simp only [List.any_cons, List.any_nil, h2, Bool.or_false]
theorem any_yes' {α : Type} {l : List α} {p : α → Bool} {d : α} {k : Nat} (hk : k < l.length) (h2 : p (l.getD k d) = true) : l.any p = true := List.any_eq_true.2 ⟨_, getD_mem l k hk, h2⟩
set_option maxRecDepth 100000 in
set_option maxHeartbeats 4000000 in
theorem clauser_any (c : CodeD) (i : Nat) (q : QueryD) (cv rv fv : Value) (w : World) (h : CodeIn w.cell? cv rv fv c) (hi : i < c.clauses.length) : Calls Tryz.prog 54 #[codeV cv rv fv, .int .i64 i, queryV q] w (Ret (.bool (rulesB c i q)) w) := by
  have HC := hide h
  obtain ⟨⟨ca, cn, rfl, hc1, hc2, hcc⟩, ⟨ra, rn, rfl, hr1, hr2, -⟩, ⟨fa, fn, rfl, -, -, -⟩⟩ := id h
  obtain ⟨kb, ko, nv, bv, rfl, k0, k1, k2, k3, k4, k5, hn, hbs⟩ := hcc i hi
  have HR := hide (rulesB_eq c i q)
  obtain ⟨na, nn, rfl, -⟩ := id hn
  obtain ⟨ba, bn, rfl, -⟩ := id hbs
  generalize c.clauses.getD i clause0 = y at HR k0 k1 k2 k3 k4 k5 hn hbs
  have HX : Hid (rulesX y q = (decide (y.pub ≤ q.known) && hasD y.sf y.st q.day)) := hide rfl
  generalize rulesX y q = X at HR HX
  have HH := hide (fun W => hasr_any y.sf y.st q.day W)
  generalize hasD y.sf y.st q.day = hd at HX HH
  have HP : Hid (∀ r, repealsB i q r = (decide (r.clause = i) && decide (r.pub ≤ q.known) && decide (r.from_ ≤ q.day))) := hide (fun _ => rfl)
  generalize rulesB c i q = R at HR ⊢
  generalize repealsB (i : Int) q = p at HP HR
  have hiI : (i : Int) < c.clauses.length := by omega
  have hrl : (c.repeals.length : Int) ≤ 9223372036854775807 := by omega
  clear h hcc hn hbs hc1 hc2 hr1 hr2
  by_cases hpu : y.pub ≤ q.known
  · have d1 : decide (q.known < y.pub) = false := decide_eq_false (by omega)
    have HX2 : Hid (X = hd) := hide (by rw [HX.out, decT hpu]; rfl)
    clear hpu HX
    have kk0 := fun o o' => keep (below2 (bal w o) (bal (w.alloc o) o')) k0
    have kk1 := fun o o' => keep (below2 (bal w o) (bal (w.alloc o) o')) k1
    have kk2 := fun o o' => keep (below2 (bal w o) (bal (w.alloc o) o')) k2
    have kk3 := fun o o' => keep (below2 (bal w o) (bal (w.alloc o) o')) k3
    have kk4 := fun o o' => keep (below2 (bal w o) (bal (w.alloc o) o')) k4
    have kk5 := fun o o' => keep (below2 (bal w o) (bal (w.alloc o) o')) k5
    go_enter Tryz.func54, Tryz.ntmps54
    go_wp2_with fail
    generalize hX1 : World.alloc w _ = X1
    have zX1 : X1.heap.size = w.heap.size + 1 := by rw [← hX1]; simp
    have bX1 : Below w.heap.size w X1 := by rw [← hX1]; exact bal w _
    have bC_1 : Blk X1 (w.heap.size) [.slice (some ⟨kb, ko, none⟩) c.clauses.length cn, .slice ra c.repeals.length rn, .slice fa c.facts.length fn] 30 := by rw [← hX1]; exact Blk.newA w _ (by first | rfl | simp)
    generalize hX2 : World.alloc X1 _ = X2
    have zX2 : X2.heap.size = w.heap.size + 1 + 1 := by rw [← hX2]; simp [zX1]
    have bX2 : Below X1.heap.size X1 X2 := by rw [← hX2]; exact bal X1 _
    have bQ_2 : Blk X2 (w.heap.size + 1) (queryC q) 33 := by rw [← hX2, ← zX1]; exact Blk.newA X1 _ (by first | rfl | simp)
    have bC_2 := bC_1.later bX2
    generalize hX3 : World.alloc X2 _ = X3
    have zX3 : X3.heap.size = w.heap.size + 1 + 1 + 1 := by rw [← hX3]; simp [zX2]
    have bX3 : Below X2.heap.size X2 X3 := by rw [← hX3]; exact bal X2 _
    have bY : Blk X3 (w.heap.size + 1 + 1) (clauseC y (.slice na y.needs.length nn) (.slice ba y.bars.length bn)) 67 := by rw [← hX3, ← zX2]; exact Blk.newA X2 _ (by first | rfl | simp)
    have bC := bC_2.later bX3
    have bQ := bQ_2.later bX3
    have Xb := below2 (below2 (bX1) bX2) bX3
    have Xz := zX3
    clear hX1 zX1 bX1 hX2 zX2 bX2 hX3 zX3 bX3 bC_1 bC_2 bQ_2
    refine (HH.out _).mono ?_
    rintro e w1 ⟨rfl, hb1⟩
    have hw1 := below2 Xb hb1
    replace bC := bC.later hb1
    replace bQ := bQ.later hb1
    clear Xb Xz hb1 k0 k1 k2 k3 k4 k5 kk0 kk1 kk2 kk3 kk4 kk5 bY HH
    cases hd
    · have HF : Hid (R = false) := hide (by rw [HR.out, HX2.out]; rfl)
      go_wp2_with fail
      go_ret
      exact ⟨by rw [HF.out]; rfl, hw1⟩
    · have HR2 : Hid (R = !c.repeals.any p) := hide (by rw [HR.out, HX2.out]; rfl)
      clear HR HX2
      go_wp2_with fail
      go_loopw [8] (fun j wr => ∃ k : Nat, k ≤ c.repeals.length ∧ j = .int .i64 k ∧ Hid ((c.repeals.take k).any p = false) ∧ Below w1.heap.size w1 wr) (fun j _ => c.repeals.length - (intOf j).toNat)
      case atStart => exact ⟨0, by omega, rfl, hide rfl, Below.refl _ _⟩
      case round =>
        obtain ⟨k, hk, rfl, HM, hbr⟩ := hrel
        have bCr := bC.later hbr
        have bQr := bQ.later hbr
        by_cases hlt : k < c.repeals.length
        · have HK := hide hlt
          have hltI : (k : Int) < c.repeals.length := by omega
          obtain ⟨rb, ro, e, hck⟩ := ((HC.out.re.below hw1).below hbr).cell hlt
          cases e
          have HY := hide (fun h => any_succ' (d := repeal0) hlt HM.out h)
          have HN := hide (fun h => any_yes' (p := p) (d := repeal0) hlt h)
          generalize c.repeals.getD k repeal0 = r at hck HY HN
          have r0' := hck 0 _ rfl
          have r1 := bwc (hck 1 _ rfl)
          have r2 := bwc (hck 2 _ rfl)
          rw [Nat.add_zero] at r0'
          have r0 := bwc r0'
          have HPR := hide (HP.out r)
          generalize p r = pr at HY HN HPR
          have g1 := bwc (bCr.cell 1 rfl)
          have g3 := bwc (bQr.cell 3 rfl)
          have g2 := bwc (bQr.cell 2 rfl)
          have hcr1 := bCr.cell 1 rfl
          clear hck r0'
          have HB := hide (below2 hw1 hbr)
          by_cases e1 : r.clause = i
          · have d2 : (r.clause == (i : Int)) = true := by simpa using e1
            by_cases e2 : r.pub ≤ q.known
            · have d3 := decT e2
              by_cases e3 : r.from_ ≤ q.day
              · have d4 := decT e3
                have HF : Hid (R = false) := hide (by rw [HR2.out, HN.out (by rw [HPR.out, decT e1, d3, d4]; rfl)]; rfl)
                clear e1 e2 e3
                go_wp2_with fail
                refine wp_region_bw (by kernel_rfl) (by kernel_rfl) ?_
                repeat (go_big_quiet_step (fail))
                refine wpQuiet_nil ?_
                rintro _ ⟨i', rfl⟩
                go_wp2_with fail
                go_ret
                exact ⟨by rw [HF.out]; rfl, below2 HB.out i'.h⟩
              · have d4 := decF e3
                have HY2 := hide (HY.out (by rw [HPR.out, d4, Bool.and_false]))
                clear e1 e2 e3
                go_wp2_with fail
                refine wp_region_bw (by kernel_rfl) (by kernel_rfl) ?_
                repeat (go_big_quiet_step (fail))
                refine wpQuiet_nil ?_
                rintro _ ⟨i', rfl⟩
                go_wp2_with fail
                go_roundw
                case rel => exact ⟨k + 1, by have := HK.out; omega, by go_num, HY2, below2 hbr i'.h⟩
                case measure => have := HK.out; simp [intOf]; omega
            · have d3 := decF e2
              have HY2 := hide (HY.out (by rw [HPR.out, d3, Bool.and_false, Bool.false_and]))
              clear e1 e2
              go_wp2_with fail
              refine wp_region_bw (by kernel_rfl) (by kernel_rfl) ?_
              repeat (go_big_quiet_step (fail))
              refine wpQuiet_nil ?_
              rintro _ ⟨i', rfl⟩
              go_wp2_with fail
              go_roundw
              case rel => exact ⟨k + 1, by have := HK.out; omega, by go_num, HY2, below2 hbr i'.h⟩
              case measure => have := HK.out; simp [intOf]; omega
          · have d2 : (r.clause == (i : Int)) = false := by simpa using e1
            have HY2 := hide (HY.out (by rw [HPR.out, decF e1]; rfl))
            clear e1
            go_wp2_with fail
            refine wp_region_bw (by kernel_rfl) (by kernel_rfl) ?_
            repeat (go_big_quiet_step (fail))
            refine wpQuiet_nil ?_
            rintro _ ⟨i', rfl⟩
            go_wp2_with fail
            go_roundw
            case rel => exact ⟨k + 1, by have := HK.out; omega, by go_num, HY2, below2 hbr i'.h⟩
            case measure => have := HK.out; simp [intOf]; omega
        · obtain rfl : k = c.repeals.length := by omega
          have hcr1 := bCr.cell 1 rfl
          have HF : Hid (R = true) := hide (by rw [HR2.out]; have := HM.out; rw [List.take_length] at this; rw [this]; rfl)
          have hwf := below2 hw1 hbr
          go_wp2_with fail
          go_ret
          exact ⟨by rw [HF.out]; rfl, hwf⟩
  · have d1 : decide (q.known < y.pub) = true := decide_eq_true (by omega)
    have HF : Hid (R = false) := hide (by rw [HR.out, HX.out, decF hpu]; rfl)
    clear hpu HX HR
    have kk0 := fun o o' => keep (below2 (bal w o) (bal (w.alloc o) o')) k0
    have kk1 := fun o o' => keep (below2 (bal w o) (bal (w.alloc o) o')) k1
    have kk2 := fun o o' => keep (below2 (bal w o) (bal (w.alloc o) o')) k2
    have kk3 := fun o o' => keep (below2 (bal w o) (bal (w.alloc o) o')) k3
    have kk4 := fun o o' => keep (below2 (bal w o) (bal (w.alloc o) o')) k4
    have kk5 := fun o o' => keep (below2 (bal w o) (bal (w.alloc o) o')) k5
    go_enter Tryz.func54, Tryz.ntmps54
    go_wp2_with fail
    generalize hX1 : World.alloc w _ = X1
    have zX1 : X1.heap.size = w.heap.size + 1 := by rw [← hX1]; simp
    have bX1 : Below w.heap.size w X1 := by rw [← hX1]; exact bal w _
    have bC_1 : Blk X1 (w.heap.size) [.slice (some ⟨kb, ko, none⟩) c.clauses.length cn, .slice ra c.repeals.length rn, .slice fa c.facts.length fn] 30 := by rw [← hX1]; exact Blk.newA w _ (by first | rfl | simp)
    generalize hX2 : World.alloc X1 _ = X2
    have zX2 : X2.heap.size = w.heap.size + 1 + 1 := by rw [← hX2]; simp [zX1]
    have bX2 : Below X1.heap.size X1 X2 := by rw [← hX2]; exact bal X1 _
    have bQ_2 : Blk X2 (w.heap.size + 1) (queryC q) 33 := by rw [← hX2, ← zX1]; exact Blk.newA X1 _ (by first | rfl | simp)
    have bC_2 := bC_1.later bX2
    generalize hX3 : World.alloc X2 _ = X3
    have zX3 : X3.heap.size = w.heap.size + 1 + 1 + 1 := by rw [← hX3]; simp [zX2]
    have bX3 : Below X2.heap.size X2 X3 := by rw [← hX3]; exact bal X2 _
    have bY : Blk X3 (w.heap.size + 1 + 1) (clauseC y (.slice na y.needs.length nn) (.slice ba y.bars.length bn)) 67 := by rw [← hX3, ← zX2]; exact Blk.newA X2 _ (by first | rfl | simp)
    have bC := bC_2.later bX3
    have bQ := bQ_2.later bX3
    have Xb := below2 (below2 (bX1) bX2) bX3
    have Xz := zX3
    clear hX1 zX1 bX1 hX2 zX2 bX2 hX3 zX3 bX3 bC_1 bC_2 bQ_2
    go_ret
    exact ⟨by rw [HF.out]; rfl, Xb⟩
end Go.Proofs.YtdjldidfnddpmaaGreat
