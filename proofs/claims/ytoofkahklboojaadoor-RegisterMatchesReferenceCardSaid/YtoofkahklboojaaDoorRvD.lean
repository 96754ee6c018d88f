/- Register: walks of the reference's Valid, Common and comparable. Conditions: how the surveys lie in memory. Register: walks of the reference's Fitting and fit. Conditions: how the surveys lie in memory. Register: walks of the reference's fit and Fits. Conditions: how the surveys lie in memory. -/
import Derived.Test.YtoofkahklboojaaDoorRvC
namespace Go.Proofs.YtoofkahklboojaaDoor
open Go.RowKit

set_option maxRecDepth 20000 in
set_option maxHeartbeats 4000000 in
theorem refvalid_any (l : List DotD) (v : Value) (w : World) (hv : DotsAt w v l) : Calls Tryd.prog 23 #[v] w (Ret (.bool (validD l)) w) := by
  obtain ⟨a, c, rfl, hlc, hcm, hc⟩ := hv
  have hm1 : (l.length : Int) ≤ 9223372036854775807 := by omega
  go_enter Tryd.func23, Tryd.ntmps23
  go_wp2_with fail
  go_loopw [3] (fun i wr => ∃ (k : Nat), k ≤ l.length ∧ i = .int .i64 k ∧ Hid (∀ i, i < k → okAt l i = true) ∧ Below w.heap.size w wr) (fun i _ => l.length - (intOf i).toNat)
  case atStart => exact ⟨0, by omega, rfl, hide fun i hi => absurd hi (by omega), Below.refl _ _⟩
  case round =>
    obtain ⟨k, hk, rfl, HA, hbr⟩ := hrel
    by_cases hlt : k < l.length
    · obtain ⟨b, o, rfl, hck⟩ := hc k hlt
      have hkd : decide (k < l.length) = true := by simpa using hlt
      have HN := hide (fun h => valid_bad (l := l) hlt h)
      have HK : Hid (okAt l k = ((k == 0 || decide ((l.getD (k - 1) dot0).id < (l.getD k dot0).id)) && dotOk (l.getD k dot0))) := hide rfl
      have hpr : 0 < k → w.cell? ⟨b, o + (k - 1) * 4, none⟩ = some (iV (l.getD (k - 1) dot0).id) := fun h0 => by
        obtain ⟨b', o', e, hp⟩ := hc (k - 1) (by omega)
        cases e
        exact hp 0 _ rfl
      generalize l.getD (k - 1) dot0 = y at HK hpr
      generalize l.getD k dot0 = x at HK hck
      obtain ⟨xi, xx, xy, xt⟩ := x
      obtain ⟨yi, yx, yy, yt⟩ := y
      have e0 : wr.cell? ⟨b, o + k * 4, none⟩ = some (iV xi) := keep hbr (hck 0 _ rfl)
      have e1 : wr.cell? ⟨b, o + k * 4 + 1, none⟩ = some (iV xx) := keep hbr (hck 1 _ rfl)
      have e2 : wr.cell? ⟨b, o + k * 4 + 2, none⟩ = some (iV xy) := keep hbr (hck 2 _ rfl)
      have e3 : wr.cell? ⟨b, o + k * 4 + 3, none⟩ = some (iV xt) := keep hbr (hck 3 _ rfl)
      dsimp only at HK hpr
      clear hck hc
      go_wp2_with fail
      generalize hXX : World.alloc wr _ = W3
      have hb3 : Below wr.heap.size wr W3 := by rw [← hXX]; exact bal wr _
      have bX : Blk W3 wr.heap.size [iV xi, iV xx, iV xy, iV xt] 53 := by rw [← hXX]; exact Blk.newA wr _ rfl
      have hbr3 := below2 hbr hb3
      generalize wr.heap.size = XB at *
      clear hXX e0 e1 e2 e3
      have x0 := bwc (bX.cell 0 rfl)
      have x1 := bwc (bX.cell 1 rfl)
      have x2 := bwc (bX.cell 2 rfl)
      have x3 := bwc (bX.cell 3 rfl)
      cases d1 : decide (xi < 0)
      rotate_left
      · have hz : dotOk ⟨xi, xx, xy, xt⟩ = false := by
          unfold dotOk
          rw [decide_eq_false_iff_not]
          dsimp only
          have := of_decide_eq_true d1
          omega
        have HB := hide (HN.out (by rw [HK.out, hz, Bool.and_false]))
        clear hz
        go_wp2_with fail
        refine wp_region_bw (by kernel_rfl) (by kernel_rfl) ?_
        repeat (go_big_quiet_step (fail))
        refine wpQuiet_nil ?_
        rintro _ ⟨i0, rfl⟩
        have hbr4 := below2 hbr3 i0.h
        go_wp2_with fail
        go_ret
        exact ⟨ret_bool HB.out.symm, hbr4⟩
      cases d2 : decide (99 < xi)
      rotate_left
      · have hz : dotOk ⟨xi, xx, xy, xt⟩ = false := by
          unfold dotOk
          rw [decide_eq_false_iff_not]
          dsimp only
          have := of_decide_eq_true d2
          omega
        have HB := hide (HN.out (by rw [HK.out, hz, Bool.and_false]))
        clear hz
        go_wp2_with fail
        refine wp_region_bw (by kernel_rfl) (by kernel_rfl) ?_
        repeat (go_big_quiet_step (fail))
        refine wpQuiet_nil ?_
        rintro _ ⟨i0, rfl⟩
        have hbr4 := below2 hbr3 i0.h
        go_wp2_with fail
        go_ret
        exact ⟨ret_bool HB.out.symm, hbr4⟩
      cases d3 : decide (xx < -1000)
      rotate_left
      · have hz : dotOk ⟨xi, xx, xy, xt⟩ = false := by
          unfold dotOk
          rw [decide_eq_false_iff_not]
          dsimp only
          have := of_decide_eq_true d3
          omega
        have HB := hide (HN.out (by rw [HK.out, hz, Bool.and_false]))
        clear hz
        go_wp2_with fail
        refine wp_region_bw (by kernel_rfl) (by kernel_rfl) ?_
        repeat (go_big_quiet_step (fail))
        refine wpQuiet_nil ?_
        rintro _ ⟨i0, rfl⟩
        have hbr4 := below2 hbr3 i0.h
        go_wp2_with fail
        go_ret
        exact ⟨ret_bool HB.out.symm, hbr4⟩
      cases d4 : decide (1000 < xx)
      rotate_left
      · have hz : dotOk ⟨xi, xx, xy, xt⟩ = false := by
          unfold dotOk
          rw [decide_eq_false_iff_not]
          dsimp only
          have := of_decide_eq_true d4
          omega
        have HB := hide (HN.out (by rw [HK.out, hz, Bool.and_false]))
        clear hz
        go_wp2_with fail
        refine wp_region_bw (by kernel_rfl) (by kernel_rfl) ?_
        repeat (go_big_quiet_step (fail))
        refine wpQuiet_nil ?_
        rintro _ ⟨i0, rfl⟩
        have hbr4 := below2 hbr3 i0.h
        go_wp2_with fail
        go_ret
        exact ⟨ret_bool HB.out.symm, hbr4⟩
      cases d5 : decide (xy < -1000)
      rotate_left
      · have hz : dotOk ⟨xi, xx, xy, xt⟩ = false := by
          unfold dotOk
          rw [decide_eq_false_iff_not]
          dsimp only
          have := of_decide_eq_true d5
          omega
        have HB := hide (HN.out (by rw [HK.out, hz, Bool.and_false]))
        clear hz
        go_wp2_with fail
        refine wp_region_bw (by kernel_rfl) (by kernel_rfl) ?_
        repeat (go_big_quiet_step (fail))
        refine wpQuiet_nil ?_
        rintro _ ⟨i0, rfl⟩
        have hbr4 := below2 hbr3 i0.h
        go_wp2_with fail
        go_ret
        exact ⟨ret_bool HB.out.symm, hbr4⟩
      cases d6 : decide (1000 < xy)
      rotate_left
      · have hz : dotOk ⟨xi, xx, xy, xt⟩ = false := by
          unfold dotOk
          rw [decide_eq_false_iff_not]
          dsimp only
          have := of_decide_eq_true d6
          omega
        have HB := hide (HN.out (by rw [HK.out, hz, Bool.and_false]))
        clear hz
        go_wp2_with fail
        refine wp_region_bw (by kernel_rfl) (by kernel_rfl) ?_
        repeat (go_big_quiet_step (fail))
        refine wpQuiet_nil ?_
        rintro _ ⟨i0, rfl⟩
        have hbr4 := below2 hbr3 i0.h
        go_wp2_with fail
        go_ret
        exact ⟨ret_bool HB.out.symm, hbr4⟩
      cases d7 : decide (xt < 0)
      rotate_left
      · have hz : dotOk ⟨xi, xx, xy, xt⟩ = false := by
          unfold dotOk
          rw [decide_eq_false_iff_not]
          dsimp only
          have := of_decide_eq_true d7
          omega
        have HB := hide (HN.out (by rw [HK.out, hz, Bool.and_false]))
        clear hz
        go_wp2_with fail
        refine wp_region_bw (by kernel_rfl) (by kernel_rfl) ?_
        repeat (go_big_quiet_step (fail))
        refine wpQuiet_nil ?_
        rintro _ ⟨i0, rfl⟩
        have hbr4 := below2 hbr3 i0.h
        go_wp2_with fail
        go_ret
        exact ⟨ret_bool HB.out.symm, hbr4⟩
      cases d8 : decide (50 < xt)
      rotate_left
      · have hz : dotOk ⟨xi, xx, xy, xt⟩ = false := by
          unfold dotOk
          rw [decide_eq_false_iff_not]
          dsimp only
          have := of_decide_eq_true d8
          omega
        have HB := hide (HN.out (by rw [HK.out, hz, Bool.and_false]))
        clear hz
        go_wp2_with fail
        refine wp_region_bw (by kernel_rfl) (by kernel_rfl) ?_
        repeat (go_big_quiet_step (fail))
        refine wpQuiet_nil ?_
        rintro _ ⟨i0, rfl⟩
        have hbr4 := below2 hbr3 i0.h
        go_wp2_with fail
        go_ret
        exact ⟨ret_bool HB.out.symm, hbr4⟩
      have hz : dotOk ⟨xi, xx, xy, xt⟩ = true := by
        unfold dotOk
        rw [decide_eq_true_iff]
        dsimp only
        have := of_decide_eq_false d1
        have := of_decide_eq_false d2
        have := of_decide_eq_false d3
        have := of_decide_eq_false d4
        have := of_decide_eq_false d5
        have := of_decide_eq_false d6
        have := of_decide_eq_false d7
        have := of_decide_eq_false d8
        omega
      rw [hz, Bool.and_true] at HK
      clear hz
      by_cases h0 : 0 < k
      · have h01 : decide (0 < k) = true := by simpa using h0
        have h02 : decide ((0 : Int) < (k : Int)) = true := by simp; omega
        have u1 : IntKind.i64.wrap ((k : Int) - 1) = ((k - 1 : Nat) : Int) := by rw [IntWalk.i64_in _ (by omega)]; omega
        have hkp : decide (k - 1 < l.length) = true := by simp; omega
        have ep := bwc (keep hbr3 (hpr h0))
        have hk0 : Hid ((k == 0) = false) := hide (by simp; omega)
        cases d9 : decide (xi ≤ yi)
        · have HOK : Hid (okAt l k = true) := hide (by rw [HK.out]; have := of_decide_eq_false d9; rw [decide_eq_true (show yi < xi by omega), Bool.or_true])
          go_wp2_with fail
          refine wp_region_bw (by kernel_rfl) (by kernel_rfl) ?_
          repeat (go_big_quiet_step (fail))
          refine wpQuiet_nil ?_
          rintro _ ⟨i0, rfl⟩
          have hbr4 := below2 hbr3 i0.h
          go_wp2_with fail
          go_roundw
          case rel =>
            refine ⟨k + 1, by omega, by go_num, hide fun i hi => ?_, hbr4⟩
            rcases Nat.lt_or_ge i k with h | h
            · exact HA.out i h
            · obtain rfl : i = k := by omega
              exact HOK.out
          case measure => simp [intOf]; omega
        · have HB := hide (HN.out (by rw [HK.out, hk0.out, decide_eq_false (show ¬ yi < xi by have := of_decide_eq_true d9; omega)]; rfl))
          go_wp2_with fail
          refine wp_region_bw (by kernel_rfl) (by kernel_rfl) ?_
          repeat (go_big_quiet_step (fail))
          refine wpQuiet_nil ?_
          rintro _ ⟨i0, rfl⟩
          have hbr4 := below2 hbr3 i0.h
          go_wp2_with fail
          go_ret
          exact ⟨ret_bool HB.out.symm, hbr4⟩
      · have h01 : decide (0 < k) = false := by simpa using h0
        have h02 : decide ((0 : Int) < (k : Int)) = false := by simp; omega
        have HOK : Hid (okAt l k = true) := hide (by rw [HK.out]; rw [show (k == 0) = true by simp; omega]; rfl)
        go_wp2_with fail
        refine wp_region_bw (by kernel_rfl) (by kernel_rfl) ?_
        repeat (go_big_quiet_step (fail))
        refine wpQuiet_nil ?_
        rintro _ ⟨i0, rfl⟩
        have hbr4 := below2 hbr3 i0.h
        go_wp2_with fail
        go_roundw
        case rel =>
          refine ⟨k + 1, by omega, by go_num, hide fun i hi => ?_, hbr4⟩
          rcases Nat.lt_or_ge i k with h | h
          · exact HA.out i h
          · obtain rfl : i = k := by omega
            exact HOK.out
        case measure => simp [intOf]; omega
    · obtain rfl : k = l.length := by omega
      have HV := hide (valid_end HA.out)
      go_wp2_with fail
      go_ret
      exact ⟨ret_bool (by rw [HV.out]; exact decide_eq_decide.2 (by omega)), hbr⟩
def comC (r : Nat × Nat) : List Value := [iV r.1, iV r.2]
abbrev ComIn (c : Rd) (v : Value) (l : List (Nat × Nat)) : Prop := RecIn comC (0, 0) 2 c v l
theorem kindCom : RKind comC 2 58 := ⟨fun x => rfl, fun x u hu => by simp [comC] at hu; rcases hu with rfl | rfl <;> rfl⟩
set_option maxRecDepth 20000 in
set_option maxHeartbeats 4000000 in
theorem common'_any (a b : List DotD) (va vb : Value) (w : World) (ha : DotsAt w va a) (hb : DotsAt w vb b) (hla : a.length ≤ 12) (hlb : b.length ≤ 12) :
    Calls Tryd.prog 48 #[va, vb] w (RetM (fun c v => ComIn c v (comD a b a.length)) w) := by
  obtain ⟨aa, ac, rfl, -, -, hca⟩ := ha
  obtain ⟨ba, bc, rfl, -, -, hcb⟩ := hb
  have HA := hide hca
  have HB := hide hcb
  clear hca hcb
  go_enter Tryd.func48, Tryd.ntmps48
  go_wp2_with fail
  go_loopw [5, 6] (fun v i wr => ∃ (k : Nat), k ≤ a.length ∧ i = .int .i64 k ∧ OwnR wr w.heap.size 58 2 v ((comD a b k).map comC) ∧ Below w.heap.size w wr) (fun _ i _ => a.length - (intOf i).toNat)
  case atStart => exact ⟨0, by omega, rfl, OwnR.nil _ _ _ _, Below.refl _ _⟩
  case round =>
    obtain ⟨k, hk, rfl, hown, hbr⟩ := hrel
    by_cases hlt : k < a.length
    · obtain ⟨bl, o, rfl, hck⟩ := HA.out k hlt
      have hkd : decide (k < a.length) = true := by simpa using hlt
      have HS := hide (comD_succ a b k)
      have hml := comD_len a b k
      have hml2 : k * b.length ≤ 12 * 12 := Nat.mul_le_mul (by omega) hlb
      generalize comD a b k = R at HS hown hml
      have HPC := hide (fun (W : World) (hb : Below w.heap.size w W) => (show W.cell? ⟨bl, o + k * 4, none⟩ = some (iV (a.getD k dot0).id) from keep hb (hck 0 _ rfl)))
      have HRS := hide (fun j => comRow_succ a b k j)
      have hrl := fun j => comRow_len a b k j
      have HRL := hide hrl
      have HR0 : Hid (comRow a b k 0 = []) := hide rfl
      generalize hRW : comRow a b k = RW at *
      generalize a.getD k dot0 = p at *
      obtain ⟨pi, px, py, pt⟩ := p
      clear hck hrl hRW
      go_wp2_with fail
      go_loopw [5, 7] (fun v i wq => ∃ (j : Nat), j ≤ b.length ∧ i = .int .i64 j ∧ OwnR wq w.heap.size 58 2 v ((R ++ RW j).map comC) ∧ Below w.heap.size w wq) (fun _ i _ => b.length - (intOf i).toNat)
      case atStart => exact ⟨0, by omega, rfl, by rw [HR0.out, List.append_nil]; exact hown, hbr⟩
      case round =>
        obtain ⟨j, hj, rfl, hownq, hbq⟩ := hrel
        by_cases hlj : j < b.length
        · obtain ⟨bm, om, rfl, hcm⟩ := HB.out j hlj
          have hjd : decide (j < b.length) = true := by simpa using hlj
          have HRj := hide (HRS.out j)
          have hrl := HRL.out j
          have HLl : Hid ((R ++ RW j).length < 1000000) := hide (by rw [List.length_append]; omega)
          generalize b.getD j dot0 = q at HRj hcm
          generalize RW j = R2 at HRj hownq HLl
          obtain ⟨qi, qx, qy, qt⟩ := q
          have e0 := bwc (HPC.out _ hbq)
          have f0 := bwc (show wr.cell? ⟨bm, om + j * 4, none⟩ = some (iV qi) from keep hbq (hcm 0 _ rfl))
          clear hcm hrl
          cases h1 : (pi == qi)
          · have HI : Hid (isMark ⟨pi, px, py, pt⟩ ⟨qi, qx, qy, qt⟩ = false) := hide (by unfold isMark; rw [decide_eq_false (show ¬ pi = qi by simpa using h1)]; rfl)
            rw [HI.out, if_neg (by decide), List.append_nil] at HRj
            go_wp2_with fail
            refine wp_region_bw (by kernel_rfl) (by kernel_rfl) ?_
            repeat (go_big_quiet_step (fail))
            refine wpQuiet_nil ?_
            rintro _ ⟨i0, rfl⟩
            have hown2 := hownq.later' i0.h
            have hbq2 := below2 hbq i0.h
            go_wp2_with fail
            go_roundw
            case rel => exact ⟨j + 1, by omega, by go_num, by rw [HRj.out]; exact hown2, hbq2⟩
            case measure => simp [intOf]; omega
          · cases h2 : decide (pi ≤ 19)
            · have HI : Hid (isMark ⟨pi, px, py, pt⟩ ⟨qi, qx, qy, qt⟩ = false) := hide (by unfold isMark; rw [h2, Bool.and_false])
              rw [HI.out, if_neg (by decide), List.append_nil] at HRj
              go_wp2_with fail
              refine wp_region_bw (by kernel_rfl) (by kernel_rfl) ?_
              repeat (go_big_quiet_step (fail))
              refine wpQuiet_nil ?_
              rintro _ ⟨i0, rfl⟩
              have hown2 := hownq.later' i0.h
              have hbq2 := below2 hbq i0.h
              go_wp2_with fail
              go_roundw
              case rel => exact ⟨j + 1, by omega, by go_num, by rw [HRj.out]; exact hown2, hbq2⟩
              case measure => simp [intOf]; omega
            · have HI : Hid (isMark ⟨pi, px, py, pt⟩ ⟨qi, qx, qy, qt⟩ = true) := hide (by unfold isMark; rw [h2, Bool.and_true]; exact decide_eq_true (eq_of_beq h1))
              rw [HI.out, if_pos rfl] at HRj
              have HR3 := hide (show R ++ RW (j + 1) = (R ++ R2) ++ [(k, j)] by rw [HRj.out, List.append_assoc])
              go_wp2_with fail
              refine wp_region_bw (by kernel_rfl) (by kernel_rfl) ?_
              repeat (go_big_quiet_step (fail))
              refine wpQuiet_nil ?_
              rintro _ ⟨i0, rfl⟩
              have hown2 := hownq.later' i0.h
              have hbq2 := below2 hbq i0.h
              have hsz := hbq2.size
              generalize i0.W = WI at *
              generalize R ++ R2 = RR at *
              go_wp2_with (at_builtin; refine app_recM kindCom infoIds rfl (by decide) Tryd.underlying22 (by decide) rfl _ _ rfl w.heap.size _ _ rfl hown2 (k, j) _ rfl (by simp) HLl.out hsz ?_; intro g cc w3 hown3 hE3 hz3)
              go_roundw
              case rel => exact ⟨j + 1, by omega, by go_num, by rw [HR3.out]; exact hown3, hbq2.trans (hE3.below hsz)⟩
              case measure => simp [intOf]; omega
        · obtain rfl : j = b.length := by omega
          go_wp2_with fail
          go_roundw
          case rel => exact ⟨k + 1, by omega, by go_num, by rw [HS.out]; exact hownq, hbq⟩
          case measure => simp [intOf]; omega
    · obtain rfl : k = a.length := by omega
      go_wp2_with fail
      go_ret
      exact ⟨_, rfl, RecIn.of_own hown (fun _ => rfl) (Nat.le_refl _), hbr⟩
set_option maxRecDepth 20000 in
set_option maxHeartbeats 1000000 in
theorem cmp_any (a b : List DotD) (va vb : Value) (w : World) (ha : DotsAt w va a) (hb : DotsAt w vb b) : Calls Tryd.prog 39 #[va, vb] w (Ret (.bool (cmpD a b)) w) := by
  have HV1 := hide (fun (W : World) (h : Below w.heap.size w W) => refvalid_any a va W (ha.below h))
  have HV2 := hide (fun (W : World) (h : Below w.heap.size w W) => refvalid_any b vb W (hb.below h))
  have HC := hide (fun (W : World) (h : Below w.heap.size w W) h1 h2 => common'_any a b va vb W (ha.below h) (hb.below h) h1 h2)
  have HF : Hid (validD a = false ∨ validD b = false → cmpD a b = false) := hide (by
    intro h
    unfold cmpD marksD
    rcases h with h | h <;> rw [h] <;> simp)
  have HT : Hid (validD a = true → validD b = true → cmpD a b = decide (0 < (comD a b a.length).length)) := hide (by
    intro h1 h2
    rw [com_len h1 h2]
    unfold cmpD
    cases marksD a b <;> simp)
  have HL := hide (fun h => valid_len (l := a) h)
  have HM := hide (fun h => valid_len (l := b) h)
  generalize cmpD a b = R at *
  obtain ⟨aa, ac, rfl, -, -, -⟩ := ha
  obtain ⟨ba, bc, rfl, -, -, -⟩ := hb
  cases h1 : validD a
  · rw [h1] at HV1
    go_enter Tryd.func39, Tryd.ntmps39
    go_wp2_with fail
    refine (HV1.out _ (Below.refl _ _)).mono ?_
    rintro e w1 ⟨rfl, hb1⟩
    go_wp2_with fail
    go_ret
    exact ⟨ret_bool (HF.out (.inl h1)).symm, hb1⟩
  · rw [h1] at HV1
    cases h2 : validD b
    · rw [h2] at HV2
      go_enter Tryd.func39, Tryd.ntmps39
      go_wp2_with fail
      refine (HV1.out _ (Below.refl _ _)).mono ?_
      rintro e w1 ⟨rfl, hb1⟩
      go_wp2_with fail
      refine (HV2.out _ hb1).mono ?_
      rintro e w2 ⟨rfl, hb2⟩
      go_wp2_with fail
      go_ret
      exact ⟨ret_bool (HF.out (.inr h2)).symm, below2 hb1 hb2⟩
    · rw [h2] at HV2
      have HR := hide (HT.out h1 h2)
      generalize comD a b a.length = C at *
      go_enter Tryd.func39, Tryd.ntmps39
      go_wp2_with fail
      refine (HV1.out _ (Below.refl _ _)).mono ?_
      rintro e w1 ⟨rfl, hb1⟩
      go_wp2_with fail
      refine (HV2.out _ hb1).mono ?_
      rintro e w2 ⟨rfl, hb2⟩
      go_wp2_with fail
      refine (HC.out _ (below2 hb1 hb2) (HL.out h1) (HM.out h2)).mono ?_
      rintro e w3 ⟨v3, rfl, hv3, hb3⟩
      obtain ⟨ca, cc, rfl, -, -, -⟩ := hv3.at
      go_wp2_with fail
      go_ret
      exact ⟨ret_bool (by rw [HR.out]), below2 (below2 hb1 hb2) hb3⟩
end Go.Proofs.YtoofkahklboojaaDoor
namespace Go.Proofs.YtoofkahklboojaaDoor
open Go.RowKit

/-- the i-th common mark, by the reference's pairs of indices -/
structure ComAt (w : World) (M : List (DotD × DotD)) (la lb : Nat) (aa ba ca : Option Addr) (i : Nat) (i0 k0 bc oc bp op bq oq : Nat) : Prop where
  hc : ca = some ⟨bc, oc, none⟩
  ha : aa = some ⟨bp, op, none⟩
  hb : ba = some ⟨bq, oq, none⟩
  hi : i0 < la
  hk : k0 < lb
  c0 : w.cell? ⟨bc, oc + i * 2, none⟩ = some (.int .i64 i0)
  c1 : w.cell? ⟨bc, oc + i * 2 + 1, none⟩ = some (.int .i64 k0)
  p0 : w.cell? ⟨bp, op + i0 * 4, none⟩ = some (iV (M.getD i pair0).1.id)
  p1 : w.cell? ⟨bp, op + i0 * 4 + 1, none⟩ = some (iV (M.getD i pair0).1.x)
  p2 : w.cell? ⟨bp, op + i0 * 4 + 2, none⟩ = some (iV (M.getD i pair0).1.y)
  p3 : w.cell? ⟨bp, op + i0 * 4 + 3, none⟩ = some (iV (M.getD i pair0).1.tol)
  q0 : w.cell? ⟨bq, oq + k0 * 4, none⟩ = some (iV (M.getD i pair0).2.id)
  q1 : w.cell? ⟨bq, oq + k0 * 4 + 1, none⟩ = some (iV (M.getD i pair0).2.x)
  q2 : w.cell? ⟨bq, oq + k0 * 4 + 2, none⟩ = some (iV (M.getD i pair0).2.y)
  q3 : w.cell? ⟨bq, oq + k0 * 4 + 3, none⟩ = some (iV (M.getD i pair0).2.tol)
  ok : dotOk (M.getD i pair0).1 = true ∧ dotOk (M.getD i pair0).2 = true
theorem ComAt.later {w W : World} {M : List (DotD × DotD)} {la lb : Nat} {aa ba ca : Option Addr} {i i0 k0 bc oc bp op bq oq : Nat} (h : ComAt w M la lb aa ba ca i i0 k0 bc oc bp op bq oq) (hb : Below w.heap.size w W) : ComAt W M la lb aa ba ca i i0 k0 bc oc bp op bq oq :=
  ⟨h.hc, h.ha, h.hb, h.hi, h.hk, keep hb h.c0, keep hb h.c1, keep hb h.p0, keep hb h.p1, keep hb h.p2, keep hb h.p3, keep hb h.q0, keep hb h.q1, keep hb h.q2, keep hb h.q3, h.ok⟩
theorem com_form {w : World} {a b : List DotD} {v : Value} (hv : ComIn w.cell? v (comD a b a.length)) (h1 : validD a = true) (h2 : validD b = true) : ∃ ca cc, v = .slice ca (marksD a b).length cc ∧ ((marksD a b).length : Int) ≤ 9223372036854775807 := by
  obtain ⟨ca, cc, rfl, g1, g2, -⟩ := hv
  rw [com_len h1 h2] at *
  exact ⟨ca, cc, rfl, by omega⟩
theorem com_cells {w : World} {a b : List DotD} {aa ba ca : Option Addr} {ac bc cc : Nat} (ha : DotsAt w (.slice aa a.length ac) a) (hb : DotsAt w (.slice ba b.length bc) b) (hv : ComIn w.cell? (.slice ca (marksD a b).length cc) (comD a b a.length)) (h1 : validD a = true) (h2 : validD b = true) {i : Nat} (hi : i < (marksD a b).length) :
    ∃ i0 k0 bc oc bp op bq oq, ComAt w (marksD a b) a.length b.length aa ba ca i i0 k0 bc oc bp op bq oq := by
  obtain ⟨hil, hi0, hk0, hm⟩ := com_at h1 h2 hi
  obtain ⟨a', n', e, -, -, hac⟩ := ha
  cases e
  obtain ⟨a', n', e, -, -, hbc⟩ := hb
  cases e
  rw [← com_len h1 h2] at hv
  obtain ⟨a', n', e, -, -, hcc⟩ := hv
  cases e
  obtain ⟨bc', oc, ec, hc⟩ := hcc i hil
  obtain ⟨bp, op, ep, hp⟩ := hac _ hi0
  obtain ⟨bq, oq, eq, hq⟩ := hbc _ hk0
  have hmem : (marksD a b).getD i pair0 ∈ marksD a b := getD_mem _ i (d := pair0) hi
  have hok := marks_ok hmem
  generalize (comD a b a.length).getD i (0, 0) = r at *
  refine ⟨r.1, r.2, bc', oc, bp, op, bq, oq, ⟨ec, ep, eq, hi0, hk0, hc 0 _ rfl, hc 1 _ rfl, ?_, ?_, ?_, ?_, ?_, ?_, ?_, ?_, ⟨hok.1, hok.2.1⟩⟩⟩
  · rw [hm]; exact hp 0 _ rfl
  · rw [hm]; exact hp 1 _ rfl
  · rw [hm]; exact hp 2 _ rfl
  · rw [hm]; exact hp 3 _ rfl
  · rw [hm]; exact hq 0 _ rfl
  · rw [hm]; exact hq 1 _ rfl
  · rw [hm]; exact hq 2 _ rfl
  · rw [hm]; exact hq 3 _ rfl
set_option maxRecDepth 20000 in
set_option maxHeartbeats 2000000 in
theorem rfitting_any (a b : List DotD) (va vb : Value) (m : MotD) (w : World) (ha : DotsAt w va a) (hb : DotsAt w vb b) : Calls Tryd.prog 25 #[va, vb, motV m] w (Ret (.bool (fittingD a b m)) w) := by
  have HF := hide (fitting_all a b m)
  generalize fittingD a b m = R at *
  have HCM := hide (fun (W : World) (h : Below w.heap.size w W) => cmp_any a b va vb W (ha.below h) (hb.below h))
  have HMV := hide (fun (W : World) => moves_any m W)
  have HCC := hide (fun (W : World) (h : Below w.heap.size w W) h1 h2 => common'_any a b va vb W (ha.below h) (hb.below h) h1 h2)
  have HV := hide (fun h => cmp_valid (a := a) (b := b) h)
  have DA := ha
  have DB := hb
  obtain ⟨aa, ac, rfl, -, -, -⟩ := ha
  obtain ⟨ba, bc, rfl, -, -, -⟩ := hb
  cases h1 : cmpD a b
  · rw [h1] at HF HCM
    go_enter Tryd.func25, Tryd.ntmps25
    go_wp2_with fail
    generalize hX1 : World.alloc w _ = X1
    have zX1 : X1.heap.size = w.heap.size + 1 := by rw [← hX1]; simp
    have bX1 : Below w.heap.size w X1 := by rw [← hX1]; exact bal w _
    have bM : Blk X1 (w.heap.size) [iV m.turn, iV m.dx, iV m.dy] 32 := by rw [← hX1]; exact Blk.newA w _ (by first | rfl | simp)
    have Xb := bX1
    have Xz := zX1
    clear hX1 zX1 bX1
    refine (HCM.out _ Xb).mono ?_
    rintro e w1 ⟨rfl, hb1⟩
    go_wp2_with fail
    go_ret
    exact ⟨ret_bool HF.out.symm, below2 Xb hb1⟩
  · obtain ⟨hva, hvb⟩ := HV.out h1
    rw [h1] at HF HCM
    cases h2 : motOk m
    · rw [h2] at HF HMV
      go_enter Tryd.func25, Tryd.ntmps25
      go_wp2_with fail
      generalize hX1 : World.alloc w _ = X1
      have zX1 : X1.heap.size = w.heap.size + 1 := by rw [← hX1]; simp
      have bX1 : Below w.heap.size w X1 := by rw [← hX1]; exact bal w _
      have bM : Blk X1 (w.heap.size) [iV m.turn, iV m.dx, iV m.dy] 32 := by rw [← hX1]; exact Blk.newA w _ (by first | rfl | simp)
      have Xb := bX1
      have Xz := zX1
      clear hX1 zX1 bX1
      refine (HCM.out _ Xb).mono ?_
      rintro e w1 ⟨rfl, hb1⟩
      have bM1 := bM.later hb1
      have m0 := bM1.cell 0 rfl
      have m1 := bM1.cell 1 rfl
      have m2 := bM1.cell 2 rfl
      go_wp2_with fail
      refine (HMV.out _).mono ?_
      rintro e w2 ⟨rfl, hb2⟩
      go_wp2_with fail
      go_ret
      exact ⟨ret_bool HF.out.symm, below2 Xb (below2 hb1 hb2)⟩
    · rw [h2] at HF HMV
      rw [Bool.true_and, Bool.true_and] at HF
      have hm := (mot_iff m).1 h2
      obtain ⟨kk, hkk⟩ : ∃ kk : Nat, m.turn = kk := ⟨m.turn.toNat, by omega⟩
      have hk3 : kk ≤ 3 := by omega
      rw [hkk] at HF
      rw [show ((kk : Int)).toNat = kk by omega] at HF
      have hla := valid_len hva
      have hlb := valid_len hvb
      have HN : Hid (∀ i, i < (marksD a b).length → hasB (shiftD kk ((marksD a b).getD i pair0).1 ((marksD a b).getD i pair0).2) m.dx m.dy = false → R = false) := hide (by
        intro i hi hh
        rw [HF.out, List.all_eq_false]
        exact ⟨_, getD_mem _ i (d := pair0) hi, by rw [hh]; decide⟩)
      have HY : Hid ((∀ i, i < (marksD a b).length → hasB (shiftD kk ((marksD a b).getD i pair0).1 ((marksD a b).getD i pair0).2) m.dx m.dy = true) → R = true) := hide (by
        intro hh
        rw [HF.out, List.all_eq_true]
        intro r hr
        obtain ⟨i, hi, rfl⟩ := List.getElem_of_mem hr
        have := hh i hi
        rwa [List.getD_eq_getElem?_getD, List.getElem?_eq_getElem hi] at this)
      have HSH := hide (fun (p q : DotD) (h : dotOk p = true ∧ dotOk q = true) (W : World) => rshifts_any kk p q W hk3 h.1 h.2)
      have HWI := hide (fun (f : BoxD) (W : World) => rwithin_any kk f m W)
      obtain ⟨mt, mx, my⟩ := m
      dsimp only at hkk HN HY HWI HMV
      subst hkk
      have htt : ((kk : Int) == (kk : Int)) = true := by simp
      rw [htt] at HWI
      clear hm htt HV HF
      go_enter Tryd.func25, Tryd.ntmps25
      go_wp2_with fail
      generalize hX1 : World.alloc w _ = X1
      have zX1 : X1.heap.size = w.heap.size + 1 := by rw [← hX1]; simp
      have bX1 : Below w.heap.size w X1 := by rw [← hX1]; exact bal w _
      have bM : Blk X1 (w.heap.size) [iV kk, iV mx, iV my] 32 := by rw [← hX1]; exact Blk.newA w _ (by first | rfl | simp)
      have Xb := bX1
      have Xz := zX1
      clear hX1 zX1 bX1
      refine (HCM.out _ Xb).mono ?_
      rintro e w1 ⟨rfl, hb1⟩
      have bM1 := bM.later hb1
      have m0 := bM1.cell 0 rfl
      have m1 := bM1.cell 1 rfl
      have m2 := bM1.cell 2 rfl
      have hbw1 := below2 Xb hb1
      go_wp2_with fail
      refine (HMV.out _).mono ?_
      rintro e w2 ⟨rfl, hb2⟩
      have hbw2 := below2 hbw1 hb2
      go_wp2_with fail
      refine (HCC.out _ hbw2 hla hlb).mono ?_
      rintro e w3 ⟨v3, rfl, hv3, hb3⟩
      have hbw3 := below2 hbw2 hb3
      have hv4 := hv3.at
      obtain ⟨ca, cc, rfl, hml⟩ := com_form hv4 hva hvb
      have HCA := hide (fun (i : Nat) hi => com_cells (DA.below hbw3) (DB.below hbw3) hv4 hva hvb (i := i) hi)
      have bM3 := bM1.later (below2 hb2 hb3)
      clear hv3 hv4 m0 m1 m2 HCM HCC HMV
      generalize marksD a b = ML at *
      go_wp2_with fail
      go_loopw [8] (fun i wr => ∃ k : Nat, k ≤ ML.length ∧ i = .int .i64 k ∧ Hid (∀ i, i < k → hasB (shiftD kk (ML.getD i pair0).1 (ML.getD i pair0).2) mx my = true) ∧ Below w3.heap.size w3 wr) (fun i _ => ML.length - (intOf i).toNat)
      case atStart => exact ⟨0, by omega, rfl, hide fun i hi => absurd hi (by omega), Below.refl _ _⟩
      case round =>
        obtain ⟨k, hk, rfl, HA, hbr⟩ := hrel
        by_cases hlt : k < ML.length
        · obtain ⟨i0, k0, bc', oc, bp, op, bq, oq, hC⟩ := HCA.out k hlt
          obtain rfl := hC.hc
          obtain rfl := hC.ha
          obtain rfl := hC.hb
          have hkd : decide (k < ML.length) = true := by simpa using hlt
          have hid : decide (i0 < a.length) = true := by simpa using hC.hi
          have hip := hC.hi
          have hjp := hC.hk
          have hjd : decide (k0 < b.length) = true := by simpa using hC.hk
          have HSk := hide (HSH.out _ _ hC.ok)
          have hM := bM3.later hbr
          have hCr := hC.later hbr
          generalize hr : ML.getD k pair0 = r at *
          obtain ⟨⟨pi, px, py, pt⟩, ⟨qi, qx, qy, qt⟩⟩ := r
          have HNk := hide (fun h => HN.out k hlt h)
          rw [hr] at HNk
          have HWk := hide (HWI.out (shiftD kk ⟨pi, px, py, pt⟩ ⟨qi, qx, qy, qt⟩))
          dsimp only at HNk
          have c0 := bwc (hCr).c0
          have c1 := bwc (hCr).c1
          have p0 := bwc (hCr).p0
          have p1 := bwc (hCr).p1
          have p2 := bwc (hCr).p2
          have p3 := bwc (hCr).p3
          have q0 := bwc (hCr).q0
          have q1 := bwc (hCr).q1
          have q2 := bwc (hCr).q2
          have q3 := bwc (hCr).q3
          have m0 := bwc (hM.cell 0 rfl)
          have m1 := bwc (hM.cell 1 rfl)
          have m2 := bwc (hM.cell 2 rfl)
          rw [hr] at p0 p1 p2 p3 q0 q1 q2 q3
          dsimp only at p0 p1 p2 p3 q0 q1 q2 q3
          have HHR : Hid (∀ z, hasB (shiftD kk ⟨pi, px, py, pt⟩ ⟨qi, qx, qy, qt⟩) mx my = z → hasB (shiftD kk (ML.getD k pair0).1 (ML.getD k pair0).2) mx my = z) := hide (by intro z h; rw [hr]; exact h)
          clear hC hCr hM hr
          generalize hasB (shiftD kk ⟨pi, px, py, pt⟩ ⟨qi, qx, qy, qt⟩) mx my = hz at *
          generalize shiftD kk ⟨pi, px, py, pt⟩ ⟨qi, qx, qy, qt⟩ = F at *
          obtain ⟨f1, f2, f3, f4⟩ := F
          cases hz
          · have HB := hide (HNk.out rfl)
            clear HNk HHR
            go_wp2_with fail
            refine wp_region_bw (by kernel_rfl) (by kernel_rfl) ?_
            repeat (go_big_quiet_step (with_reducible first | exact quiet (HSk.out _) | exact quiet (HWk.out _)))
            refine wpQuiet_nil ?_
            rintro _ ⟨i, rfl⟩
            go_wp2_with fail
            go_ret
            exact ⟨ret_bool HB.out.symm, below2 hbw3 (below2 hbr i.h)⟩
          · have HG := hide (HHR.out true rfl)
            clear HNk HHR
            go_wp2_with fail
            refine wp_region_bw (by kernel_rfl) (by kernel_rfl) ?_
            repeat (go_big_quiet_step (with_reducible first | exact quiet (HSk.out _) | exact quiet (HWk.out _)))
            refine wpQuiet_nil ?_
            rintro _ ⟨i, rfl⟩
            have hbr2 := below2 hbr i.h
            go_wp2_with fail
            go_roundw
            case rel =>
              refine ⟨k + 1, by omega, by go_num, hide fun j hj => ?_, hbr2⟩
              rcases Nat.lt_or_ge j k with h | h
              · exact HA.out j h
              · obtain rfl : j = k := by omega
                exact HG.out
            case measure => simp [intOf]; omega
        · obtain rfl : k = ML.length := by omega
          have HYR := hide (HY.out HA.out)
          go_wp2_with fail
          go_ret
          exact ⟨ret_bool HYR.out.symm, below2 hbw3 hbr⟩
end Go.Proofs.YtoofkahklboojaaDoor
namespace Go.Proofs.YtoofkahklboojaaDoor
open Go.RowKit

theorem len26 {α : Type} {vs : List α} (h : vs.length = 26) : ∃ x0 x1 x2 x3 x4 x5 x6 x7 x8 x9 x10 x11 x12 x13 x14 x15 x16 x17 x18 x19 x20 x21 x22 x23 x24 x25, vs = [x0, x1, x2, x3, x4, x5, x6, x7, x8, x9, x10, x11, x12, x13, x14, x15, x16, x17, x18, x19, x20, x21, x22, x23, x24, x25] := by
  match vs, h with
  | [x0, x1, x2, x3, x4, x5, x6, x7, x8, x9, x10, x11, x12, x13, x14, x15, x16, x17, x18, x19, x20, x21, x22, x23, x24, x25], _ => exact ⟨_, _, _, _, _, _, _, _, _, _, _, _, _, _, _, _, _, _, _, _, _, _, _, _, _, _, rfl⟩
theorem BoxG.put5 {w X : World} {R : Nat} {t : TypeId} {x0 x1 x2 x3 x4 : Value} {l1 : List Value} {W : World} (h : BoxG w X R t [x0, x1, x2, x3, x4] l1 false W) (hR : w.heap.size ≤ R) (u0 u1 u2 u3 u4 : Value) :
    BoxG w X R t [u0, u1, u2, u3, u4] l1 false (World.setCell (World.setCell (World.setCell (World.setCell (World.setCell W ⟨R, 0, none⟩ u0) ⟨R, 1, none⟩ u1) ⟨R, 2, none⟩ u2) ⟨R, 3, none⟩ u3) ⟨R, 4, none⟩ u4) :=
  ⟨(set5 h.box u0 u1 u2 u3 u4).2 _ _ h.hb hR, ((((h.hE.trans (Eff.setCell _ _ _ _)).trans (Eff.setCell _ _ _ _)).trans (Eff.setCell _ _ _ _)).trans (Eff.setCell _ _ _ _)).trans (Eff.setCell _ _ _ _), (set5 h.box u0 u1 u2 u3 u4).1⟩
theorem BoxG.start {w X : World} {R : Nat} {t : TypeId} {l0 l1 : List Value} (hb : Below w.heap.size w X) (hR : Blk X R l0 t) : BoxG w X R t l0 l1 false X := ⟨hb, Eff.refl _ _, hR⟩
theorem com_far {w0 w : World} {a b : List DotD} {aa ba ca : Option Addr} {ac bc' cc C : Nat} (ha : DotsAt w0 (.slice aa a.length ac) a) (hb : DotsAt w0 (.slice ba b.length bc') b) (hv : ComIn (frm C w) (.slice ca (marksD a b).length cc) (comD a b a.length)) (h1 : validD a = true) (h2 : validD b = true)
    {i : Nat} (hi : i < (marksD a b).length) {i0 k0 bc oc bp op bq oq : Nat} (hC : ComAt w (marksD a b) a.length b.length aa ba ca i i0 k0 bc oc bp op bq oq) : bp < w0.heap.size ∧ bq < w0.heap.size ∧ C ≤ bc := by
  obtain ⟨a', n', e, -, -, hac⟩ := ha
  cases e
  obtain ⟨a', n', e, -, -, hbc⟩ := hb
  cases e
  rw [← com_len h1 h2] at hv hi
  obtain ⟨a', n', e, -, -, hcc⟩ := hv
  cases e
  obtain ⟨bx, ox, e1, hx⟩ := hac _ hC.hi
  obtain ⟨by', oy, e2, hy⟩ := hbc _ hC.hk
  obtain ⟨bz, oz, e3, hz⟩ := hcc i hi
  rw [hC.ha] at e1
  rw [hC.hb] at e2
  rw [hC.hc] at e3
  cases e1
  cases e2
  cases e3
  refine ⟨lt_of_cell (hx 0 _ rfl), lt_of_cell (hy 0 _ rfl), ?_⟩
  have := hz 0 _ rfl
  unfold frm at this
  split at this
  · rename_i h; exact h
  · cases this
set_option maxRecDepth 20000 in
set_option maxHeartbeats 4000000 in
theorem rfit_any (a b : List DotD) (va vb : Value) (k : Nat) (w : World) (ha : DotsAt w va a) (hb : DotsAt w vb b) (hva : validD a = true) (hvb : validD b = true) (hk3 : k ≤ 3) : Calls Tryd.prog 40 #[va, vb, iV k] w (Ret (.tuple #[fitV (fitRB (marksD a b) k).1 (fitRB (marksD a b) k).2, .bool (!emptyB (fitD (marksD a b) k))]) w) := by
  have hla := valid_len hva
  have hlb := valid_len hvb
  have HCC := hide (fun (W : World) (h : Below w.heap.size w W) => common'_any a b va vb W (ha.below h) (hb.below h) hla hlb)
  have HSH := hide (fun (p q : DotD) (h : dotOk p = true ∧ dotOk q = true) (W : World) => rshifts_any k p q W hk3 h.1 h.2)
  have HME := hide (fun (f s : BoxD) (W : World) => rmeet_any k k f s W)
  have HFS := hide (fun (i : Nat) (hi : i < (marksD a b).length) => foldK_succ (marksD a b) k everyD i hi)
  have HBR := hide (fun (i : Nat) h => fit_break (l := marksD a b) (k := k) (i := i) h)
  have HFE : Hid (foldK ((marksD a b).take (marksD a b).length) k everyD = fitD (marksD a b) k) := hide (by rw [List.take_length]; rfl)
  have HRN : Hid (emptyB (fitD (marksD a b) k) = true → fitRB (marksD a b) k = (0, ⟨0, 0, 0, 0⟩)) := hide (fun h => by unfold fitRB; rw [if_pos h])
  have HRY : Hid (emptyB (fitD (marksD a b) k) = false → fitRB (marksD a b) k = (k, fitD (marksD a b) k)) := hide (fun h => by unfold fitRB; rw [h]; rfl)
  have HE0 : Hid (emptyB (foldK ((marksD a b).take 0) k everyD) = false) := hide rfl
  have HF0 : Hid (foldK ((marksD a b).take 0) k everyD = ⟨-5000, 5000, -5000, 5000⟩) := hide rfl
  have DA := ha
  have DB := hb
  obtain ⟨aa, ac, rfl, -, -, -⟩ := ha
  obtain ⟨ba, bc, rfl, -, -, -⟩ := hb
  go_enter Tryd.func40, Tryd.ntmps40
  go_wp2_with fail
  generalize hX1 : World.alloc w _ = X1
  have zX1 : X1.heap.size = w.heap.size + 1 := by rw [← hX1]; simp
  have bX1 : Below w.heap.size w X1 := by rw [← hX1]; exact bal w _
  have bR_1 : Blk X1 (w.heap.size) [iV 0, iV 0, iV 0, iV 0, iV 0] 65 := by rw [← hX1]; exact Blk.newA w _ (by first | rfl | simp)
  generalize hX2 : World.alloc X1 _ = X2
  have zX2 : X2.heap.size = w.heap.size + 1 + 1 := by rw [← hX2]; simp [zX1]
  have bX2 : Below X1.heap.size X1 X2 := by rw [← hX2]; exact bal X1 _
  have bO : Blk X2 (w.heap.size + 1) [iV k, iV (-5000), iV 5000, iV (-5000), iV 5000] 65 := by rw [← hX2, ← zX1]; exact Blk.newA X1 _ (by first | rfl | simp)
  have bR := bR_1.later bX2
  have Xb := below2 (bX1) bX2
  have Xz := zX2
  clear hX1 zX1 bX1 hX2 zX2 bX2 bR_1
  refine (HCC.out _ Xb).mono ?_
  rintro e w3 ⟨v3, rfl, hv3, hb3⟩
  have hbw3 := below2 Xb hb3
  have hv4 := hv3.at
  obtain ⟨ca, cc, rfl, hml⟩ := com_form hv4 hva hvb
  have HCA := hide (fun (i : Nat) hi => com_cells (DA.below hbw3) (DB.below hbw3) hv4 hva hvb (i := i) hi)
  have bR3 := bR.later hb3
  have bO3 := bO.later hb3
  have HFAR := hide (fun (i : Nat) hi i0 k0 bc' oc bp op bq oq hC => com_far (w := w3) (C := X2.heap.size) DA DB hv3 hva hvb (i := i) hi (i0 := i0) (k0 := k0) (bc := bc') (oc := oc) (bp := bp) (op := op) (bq := bq) (oq := oq) hC)
  have hOX : w.heap.size + 1 < X2.heap.size := by rw [Xz]; omega
  have hwO : w.heap.size ≤ w.heap.size + 1 := by omega
  have hRO : w.heap.size ≠ w.heap.size + 1 := by omega
  generalize fitRB (marksD a b) k = FR at *
  generalize fitD (marksD a b) k = FT at *
  generalize marksD a b = ML at *
  generalize hOB : w.heap.size + 1 = OB at *
  clear hv3 hv4 HCC bR bO hva hvb
  go_wp2_with fail
  go_loopw [10] (fun i wr => ∃ n : Nat, n ≤ ML.length ∧ i = .int .i64 n ∧ Hid (emptyB (foldK (ML.take n) k everyD) = false) ∧ BoxG w w3 OB 65 [iV k, iV (foldK (ML.take n) k everyD).xl, iV (foldK (ML.take n) k everyD).xh, iV (foldK (ML.take n) k everyD).yl, iV (foldK (ML.take n) k everyD).yh] [] false wr) (fun i _ => ML.length - (intOf i).toNat)
  case atStart => exact ⟨0, by omega, rfl, HE0, by rw [HF0.out]; exact BoxG.start hbw3 bO3⟩
  case round =>
    obtain ⟨n, hn, rfl, HE, hG⟩ := hrel
    by_cases hlt : n < ML.length
    · obtain ⟨i0, k0, bc', oc, bp, op, bq, oq, hC⟩ := HCA.out n hlt
      obtain ⟨f1, f2, f3⟩ := HFAR.out n hlt _ _ _ _ _ _ _ _ hC
      obtain rfl := hC.hc
      obtain rfl := hC.ha
      obtain rfl := hC.hb
      have hkd : decide (n < ML.length) = true := by simpa using hlt
      have hid : decide (i0 < a.length) = true := by simpa using hC.hi
      have hjd : decide (k0 < b.length) = true := by simpa using hC.hk
      have hip := hC.hi
      have hjp := hC.hk
      have HSk := hide (HSH.out _ _ hC.ok)
      have HFk := hide (HFS.out n hlt)
      generalize hr : ML.getD n pair0 = r at *
      obtain ⟨⟨pi, px, py, pt⟩, ⟨qi, qx, qy, qt⟩⟩ := r
      generalize foldK (ML.take n) k everyD = F at *
      obtain ⟨xl, xh, yl, yh⟩ := F
      generalize shiftD k (⟨pi, px, py, pt⟩ : DotD) ⟨qi, qx, qy, qt⟩ = S at *
      obtain ⟨sl, sh, tl, th⟩ := S
      have HMk := hide (HME.out ⟨xl, xh, yl, yh⟩ ⟨sl, sh, tl, th⟩)
      generalize meetD ⟨xl, xh, yl, yh⟩ ⟨sl, sh, tl, th⟩ = M at *
      generalize hne : (!emptyB M) = ne at *
      obtain ⟨m1, m2, m3, m4⟩ := M
      have c0 := hG.cell (a := ⟨bc', oc + n * 2, none⟩) (by show bc' ≠ OB; omega) hC.c0
      have c1 := hG.cell (a := ⟨bc', oc + n * 2 + 1, none⟩) (by show bc' ≠ OB; omega) hC.c1
      have p0 := hG.cell (a := ⟨bp, op + i0 * 4, none⟩) (by show bp ≠ OB; omega) hC.p0
      have p1 := hG.cell (a := ⟨bp, op + i0 * 4 + 1, none⟩) (by show bp ≠ OB; omega) hC.p1
      have p2 := hG.cell (a := ⟨bp, op + i0 * 4 + 2, none⟩) (by show bp ≠ OB; omega) hC.p2
      have p3 := hG.cell (a := ⟨bp, op + i0 * 4 + 3, none⟩) (by show bp ≠ OB; omega) hC.p3
      have q0 := hG.cell (a := ⟨bq, oq + k0 * 4, none⟩) (by show bq ≠ OB; omega) hC.q0
      have q1 := hG.cell (a := ⟨bq, oq + k0 * 4 + 1, none⟩) (by show bq ≠ OB; omega) hC.q1
      have q2 := hG.cell (a := ⟨bq, oq + k0 * 4 + 2, none⟩) (by show bq ≠ OB; omega) hC.q2
      have q3 := hG.cell (a := ⟨bq, oq + k0 * 4 + 3, none⟩) (by show bq ≠ OB; omega) hC.q3
      rw [hr] at p0 p1 p2 p3 q0 q1 q2 q3
      dsimp only at p0 p1 p2 p3 q0 q1 q2 q3 HE HFk hG
      have o0 := hG.box.cell 0 rfl
      have o1 := hG.box.cell 1 rfl
      have o2 := hG.box.cell 2 rfl
      have o3 := hG.box.cell 3 rfl
      have o4 := hG.box.cell 4 rfl
      have hGr := hG
      have HNE := hide hne
      clear hG hC f1 f2 f3 hr hne
      go_wp2_with fail
      refine wp_region_inv [some 25, some 26, some 27, some 28, some 29, some 30, some 31, some 32, some 33, some 34, some 35, some 36, some 37, some 38, some 39, some 40, some 41, some 42, some 43, some 44, some 24, some 45, some 46, some 11, none, some 12] (fun L vs W => match vs with | [x0, x1, x2, x3, x4, x5, x6, x7, x8, x9, x10, x11, x12, x13, x14, x15, x16, x17, x18, x19, x20, x21, x22, x23, x24, x25] => (Below wr.heap.size wr W) ∧ (L 0 = true → x0 = .agg #[iV k, iV xl, iV xh, iV yl, iV yh]) ∧ (L 1 = true → x1 = iV k) ∧ (L 2 = true → x2 = .slice (some ⟨bp, op, none⟩) a.length ac) ∧ (L 3 = true → x3 = .slice (some ⟨bc', oc, none⟩) ML.length cc) ∧ (L 4 = true → x4 = .int .i64 n) ∧ (L 5 = true → x5 = .pointer (some ⟨bc', oc + n * 2, none⟩)) ∧ (L 6 = true → x6 = .pointer (some ⟨bc', oc + n * 2, none⟩)) ∧ (L 7 = true → x7 = .int .i64 i0) ∧ (L 8 = true → x8 = .pointer (some ⟨bp, op + i0 * 4, none⟩)) ∧ (L 9 = true → x9 = .agg #[iV pi, iV px, iV py, iV pt]) ∧ (L 10 = true → x10 = .slice (some ⟨bq, oq, none⟩) b.length bc) ∧ (L 11 = true → x11 = .slice (some ⟨bc', oc, none⟩) ML.length cc) ∧ (L 12 = true → x12 = .int .i64 n) ∧ (L 13 = true → x13 = .pointer (some ⟨bc', oc + n * 2, none⟩)) ∧ (L 14 = true → x14 = .pointer (some ⟨bc', oc + n * 2 + 1, none⟩)) ∧ (L 15 = true → x15 = .int .i64 k0) ∧ (L 16 = true → x16 = .pointer (some ⟨bq, oq + k0 * 4, none⟩)) ∧ (L 17 = true → x17 = .agg #[iV qi, iV qx, iV qy, iV qt]) ∧ (L 18 = true → x18 = .agg #[iV k, iV sl, iV sh, iV tl, iV th]) ∧ (L 19 = true → x19 = .tuple #[.agg #[iV k, iV m1, iV m2, iV m3, iV m4], .bool ne]) ∧ (L 20 = true → x20 = .tuple #[.agg #[iV k, iV m1, iV m2, iV m3, iV m4], .bool ne]) ∧ (L 21 = true → x21 = .agg #[iV k, iV m1, iV m2, iV m3, iV m4]) ∧ (L 22 = true → x22 = .bool ne) ∧ (L 23 = true → L 24 = false → ∃ b0 : Nat, wr.heap.size ≤ b0 ∧ x23 = .pointer (some ⟨b0, 0, none⟩) ∧ Blk W b0 [iV 0, iV 0, iV 0, iV 0, iV 0] 65) ∧ (L 24 = true → L 23 = true ∧ ∃ b0 : Nat, wr.heap.size ≤ b0 ∧ x23 = .pointer (some ⟨b0, 0, none⟩) ∧ Blk W b0 [iV k, iV m1, iV m2, iV m3, iV m4] 65) ∧ (L 25 = true → x25 = .bool ne) | _ => False) [_, _, _, _, _, _, _, _, _, _, _, _, _, _, _, _, _, _, _, _, _, _, _, _, undef, _] (by kernel_rfl) (by kernel_rfl) rfl (by simp only [puts, Act.put, List.setIfInBounds_toArray, List.set_cons_zero, List.set_cons_succ] <;> rfl) ?_ ?_ ?_
      · exact ⟨(Below.refl _ _).drew, (fun h => by cases h), (fun h => by cases h), (fun h => by cases h), (fun h => by cases h), (fun h => by cases h), (fun h => by cases h), (fun h => by cases h), (fun h => by cases h), (fun h => by cases h), (fun h => by cases h), (fun h => by cases h), (fun h => by cases h), (fun h => by cases h), (fun h => by cases h), (fun h => by cases h), (fun h => by cases h), (fun h => by cases h), (fun h => by cases h), (fun h => by cases h), (fun h => by cases h), (fun h => by cases h), (fun h => by cases h), (fun h => by cases h), (fun h => by cases h), (fun h => by cases h), (fun h => by cases h)⟩
      · refine ⟨?_, ?_, ?_, ?_, ?_, ?_, ?_, ?_, ?_, ?_, ?_, ?_, ?_, ?_, ?_, ?_, ?_, ?_, ?_, ?_, ?_, ?_, ?_, ?_, ?_, ?_, trivial⟩
        · intro L vs W hlen hL hD hI K hK
          obtain ⟨x0, x1, x2, x3, x4, x5, x6, x7, x8, x9, x10, x11, x12, x13, x14, x15, x16, x17, x18, x19, x20, x21, x22, x23, x24, x25, rfl⟩ := len26 hlen
          have hG := hI.1
          replace hI := hI.2
          have f0 := hide hI.1
          replace hI := hI.2
          have f1 := hide hI.1
          replace hI := hI.2
          have f2 := hide hI.1
          replace hI := hI.2
          have f3 := hide hI.1
          replace hI := hI.2
          have f4 := hide hI.1
          replace hI := hI.2
          have f5 := hide hI.1
          replace hI := hI.2
          have f6 := hide hI.1
          replace hI := hI.2
          have f7 := hide hI.1
          replace hI := hI.2
          have f8 := hide hI.1
          replace hI := hI.2
          have f9 := hide hI.1
          replace hI := hI.2
          have f10 := hide hI.1
          replace hI := hI.2
          have f11 := hide hI.1
          replace hI := hI.2
          have f12 := hide hI.1
          replace hI := hI.2
          have f13 := hide hI.1
          replace hI := hI.2
          have f14 := hide hI.1
          replace hI := hI.2
          have f15 := hide hI.1
          replace hI := hI.2
          have f16 := hide hI.1
          replace hI := hI.2
          have f17 := hide hI.1
          replace hI := hI.2
          have f18 := hide hI.1
          replace hI := hI.2
          have f19 := hide hI.1
          replace hI := hI.2
          have f20 := hide hI.1
          replace hI := hI.2
          have f21 := hide hI.1
          replace hI := hI.2
          have f22 := hide hI.1
          replace hI := hI.2
          have f23 := hide hI.1
          replace hI := hI.2
          have f24 := hide hI.1
          replace hI := hI.2
          have f25 := hide hI
          clear hI
          have c0 := keep hG c0
          have c1 := keep hG c1
          have p0 := keep hG p0
          have p1 := keep hG p1
          have p2 := keep hG p2
          have p3 := keep hG p3
          have q0 := keep hG q0
          have q1 := keep hG q1
          have q2 := keep hG q2
          have q3 := keep hG q3
          have o0 := keep hG o0
          have o1 := keep hG o1
          have o2 := keep hG o2
          have o3 := keep hG o3
          have o4 := keep hG o4
          try simp only [puts, Act.put, List.setIfInBounds_toArray, List.set_cons_zero, List.set_cons_succ]
          try go_simp
          exact hK.out _ _ _ (by simp only [puts, Act.put, List.setIfInBounds_toArray, List.set_cons_zero, List.set_cons_succ] <;> rfl) ⟨hG, (fun _ => rfl), (fun h => f1.out h), (fun h => f2.out h), (fun h => f3.out h), (fun h => f4.out h), (fun h => f5.out h), (fun h => f6.out h), (fun h => f7.out h), (fun h => f8.out h), (fun h => f9.out h), (fun h => f10.out h), (fun h => f11.out h), (fun h => f12.out h), (fun h => f13.out h), (fun h => f14.out h), (fun h => f15.out h), (fun h => f16.out h), (fun h => f17.out h), (fun h => f18.out h), (fun h => f19.out h), (fun h => f20.out h), (fun h => f21.out h), (fun h => f22.out h), (fun h => f23.out h), (fun h => f24.out h), (fun h => f25.out h)⟩
        · intro L vs W hlen hL hD hI K hK
          obtain ⟨x0, x1, x2, x3, x4, x5, x6, x7, x8, x9, x10, x11, x12, x13, x14, x15, x16, x17, x18, x19, x20, x21, x22, x23, x24, x25, rfl⟩ := len26 hlen
          have hG := hI.1
          replace hI := hI.2
          have f0 := hide hI.1
          replace hI := hI.2
          have f1 := hide hI.1
          replace hI := hI.2
          have f2 := hide hI.1
          replace hI := hI.2
          have f3 := hide hI.1
          replace hI := hI.2
          have f4 := hide hI.1
          replace hI := hI.2
          have f5 := hide hI.1
          replace hI := hI.2
          have f6 := hide hI.1
          replace hI := hI.2
          have f7 := hide hI.1
          replace hI := hI.2
          have f8 := hide hI.1
          replace hI := hI.2
          have f9 := hide hI.1
          replace hI := hI.2
          have f10 := hide hI.1
          replace hI := hI.2
          have f11 := hide hI.1
          replace hI := hI.2
          have f12 := hide hI.1
          replace hI := hI.2
          have f13 := hide hI.1
          replace hI := hI.2
          have f14 := hide hI.1
          replace hI := hI.2
          have f15 := hide hI.1
          replace hI := hI.2
          have f16 := hide hI.1
          replace hI := hI.2
          have f17 := hide hI.1
          replace hI := hI.2
          have f18 := hide hI.1
          replace hI := hI.2
          have f19 := hide hI.1
          replace hI := hI.2
          have f20 := hide hI.1
          replace hI := hI.2
          have f21 := hide hI.1
          replace hI := hI.2
          have f22 := hide hI.1
          replace hI := hI.2
          have f23 := hide hI.1
          replace hI := hI.2
          have f24 := hide hI.1
          replace hI := hI.2
          have f25 := hide hI
          clear hI
          have c0 := keep hG c0
          have c1 := keep hG c1
          have p0 := keep hG p0
          have p1 := keep hG p1
          have p2 := keep hG p2
          have p3 := keep hG p3
          have q0 := keep hG q0
          have q1 := keep hG q1
          have q2 := keep hG q2
          have q3 := keep hG q3
          have o0 := keep hG o0
          have o1 := keep hG o1
          have o2 := keep hG o2
          have o3 := keep hG o3
          have o4 := keep hG o4
          try simp only [puts, Act.put, List.setIfInBounds_toArray, List.set_cons_zero, List.set_cons_succ]
          try go_simp
          exact hK.out _ _ _ (by simp only [puts, Act.put, List.setIfInBounds_toArray, List.set_cons_zero, List.set_cons_succ] <;> rfl) ⟨hG, (fun h => f0.out h), (fun _ => rfl), (fun h => f2.out h), (fun h => f3.out h), (fun h => f4.out h), (fun h => f5.out h), (fun h => f6.out h), (fun h => f7.out h), (fun h => f8.out h), (fun h => f9.out h), (fun h => f10.out h), (fun h => f11.out h), (fun h => f12.out h), (fun h => f13.out h), (fun h => f14.out h), (fun h => f15.out h), (fun h => f16.out h), (fun h => f17.out h), (fun h => f18.out h), (fun h => f19.out h), (fun h => f20.out h), (fun h => f21.out h), (fun h => f22.out h), (fun h => f23.out h), (fun h => f24.out h), (fun h => f25.out h)⟩
        · intro L vs W hlen hL hD hI K hK
          obtain ⟨x0, x1, x2, x3, x4, x5, x6, x7, x8, x9, x10, x11, x12, x13, x14, x15, x16, x17, x18, x19, x20, x21, x22, x23, x24, x25, rfl⟩ := len26 hlen
          have hG := hI.1
          replace hI := hI.2
          have f0 := hide hI.1
          replace hI := hI.2
          have f1 := hide hI.1
          replace hI := hI.2
          have f2 := hide hI.1
          replace hI := hI.2
          have f3 := hide hI.1
          replace hI := hI.2
          have f4 := hide hI.1
          replace hI := hI.2
          have f5 := hide hI.1
          replace hI := hI.2
          have f6 := hide hI.1
          replace hI := hI.2
          have f7 := hide hI.1
          replace hI := hI.2
          have f8 := hide hI.1
          replace hI := hI.2
          have f9 := hide hI.1
          replace hI := hI.2
          have f10 := hide hI.1
          replace hI := hI.2
          have f11 := hide hI.1
          replace hI := hI.2
          have f12 := hide hI.1
          replace hI := hI.2
          have f13 := hide hI.1
          replace hI := hI.2
          have f14 := hide hI.1
          replace hI := hI.2
          have f15 := hide hI.1
          replace hI := hI.2
          have f16 := hide hI.1
          replace hI := hI.2
          have f17 := hide hI.1
          replace hI := hI.2
          have f18 := hide hI.1
          replace hI := hI.2
          have f19 := hide hI.1
          replace hI := hI.2
          have f20 := hide hI.1
          replace hI := hI.2
          have f21 := hide hI.1
          replace hI := hI.2
          have f22 := hide hI.1
          replace hI := hI.2
          have f23 := hide hI.1
          replace hI := hI.2
          have f24 := hide hI.1
          replace hI := hI.2
          have f25 := hide hI
          clear hI
          have c0 := keep hG c0
          have c1 := keep hG c1
          have p0 := keep hG p0
          have p1 := keep hG p1
          have p2 := keep hG p2
          have p3 := keep hG p3
          have q0 := keep hG q0
          have q1 := keep hG q1
          have q2 := keep hG q2
          have q3 := keep hG q3
          have o0 := keep hG o0
          have o1 := keep hG o1
          have o2 := keep hG o2
          have o3 := keep hG o3
          have o4 := keep hG o4
          try simp only [puts, Act.put, List.setIfInBounds_toArray, List.set_cons_zero, List.set_cons_succ]
          try go_simp
          exact hK.out _ _ _ (by simp only [puts, Act.put, List.setIfInBounds_toArray, List.set_cons_zero, List.set_cons_succ] <;> rfl) ⟨hG, (fun h => f0.out h), (fun h => f1.out h), (fun _ => rfl), (fun h => f3.out h), (fun h => f4.out h), (fun h => f5.out h), (fun h => f6.out h), (fun h => f7.out h), (fun h => f8.out h), (fun h => f9.out h), (fun h => f10.out h), (fun h => f11.out h), (fun h => f12.out h), (fun h => f13.out h), (fun h => f14.out h), (fun h => f15.out h), (fun h => f16.out h), (fun h => f17.out h), (fun h => f18.out h), (fun h => f19.out h), (fun h => f20.out h), (fun h => f21.out h), (fun h => f22.out h), (fun h => f23.out h), (fun h => f24.out h), (fun h => f25.out h)⟩
        · intro L vs W hlen hL hD hI K hK
          obtain ⟨x0, x1, x2, x3, x4, x5, x6, x7, x8, x9, x10, x11, x12, x13, x14, x15, x16, x17, x18, x19, x20, x21, x22, x23, x24, x25, rfl⟩ := len26 hlen
          have hG := hI.1
          replace hI := hI.2
          have f0 := hide hI.1
          replace hI := hI.2
          have f1 := hide hI.1
          replace hI := hI.2
          have f2 := hide hI.1
          replace hI := hI.2
          have f3 := hide hI.1
          replace hI := hI.2
          have f4 := hide hI.1
          replace hI := hI.2
          have f5 := hide hI.1
          replace hI := hI.2
          have f6 := hide hI.1
          replace hI := hI.2
          have f7 := hide hI.1
          replace hI := hI.2
          have f8 := hide hI.1
          replace hI := hI.2
          have f9 := hide hI.1
          replace hI := hI.2
          have f10 := hide hI.1
          replace hI := hI.2
          have f11 := hide hI.1
          replace hI := hI.2
          have f12 := hide hI.1
          replace hI := hI.2
          have f13 := hide hI.1
          replace hI := hI.2
          have f14 := hide hI.1
          replace hI := hI.2
          have f15 := hide hI.1
          replace hI := hI.2
          have f16 := hide hI.1
          replace hI := hI.2
          have f17 := hide hI.1
          replace hI := hI.2
          have f18 := hide hI.1
          replace hI := hI.2
          have f19 := hide hI.1
          replace hI := hI.2
          have f20 := hide hI.1
          replace hI := hI.2
          have f21 := hide hI.1
          replace hI := hI.2
          have f22 := hide hI.1
          replace hI := hI.2
          have f23 := hide hI.1
          replace hI := hI.2
          have f24 := hide hI.1
          replace hI := hI.2
          have f25 := hide hI
          clear hI
          have c0 := keep hG c0
          have c1 := keep hG c1
          have p0 := keep hG p0
          have p1 := keep hG p1
          have p2 := keep hG p2
          have p3 := keep hG p3
          have q0 := keep hG q0
          have q1 := keep hG q1
          have q2 := keep hG q2
          have q3 := keep hG q3
          have o0 := keep hG o0
          have o1 := keep hG o1
          have o2 := keep hG o2
          have o3 := keep hG o3
          have o4 := keep hG o4
          try simp only [puts, Act.put, List.setIfInBounds_toArray, List.set_cons_zero, List.set_cons_succ]
          try go_simp
          exact hK.out _ _ _ (by simp only [puts, Act.put, List.setIfInBounds_toArray, List.set_cons_zero, List.set_cons_succ] <;> rfl) ⟨hG, (fun h => f0.out h), (fun h => f1.out h), (fun h => f2.out h), (fun _ => rfl), (fun h => f4.out h), (fun h => f5.out h), (fun h => f6.out h), (fun h => f7.out h), (fun h => f8.out h), (fun h => f9.out h), (fun h => f10.out h), (fun h => f11.out h), (fun h => f12.out h), (fun h => f13.out h), (fun h => f14.out h), (fun h => f15.out h), (fun h => f16.out h), (fun h => f17.out h), (fun h => f18.out h), (fun h => f19.out h), (fun h => f20.out h), (fun h => f21.out h), (fun h => f22.out h), (fun h => f23.out h), (fun h => f24.out h), (fun h => f25.out h)⟩
        · intro L vs W hlen hL hD hI K hK
          obtain ⟨x0, x1, x2, x3, x4, x5, x6, x7, x8, x9, x10, x11, x12, x13, x14, x15, x16, x17, x18, x19, x20, x21, x22, x23, x24, x25, rfl⟩ := len26 hlen
          have hG := hI.1
          replace hI := hI.2
          have f0 := hide hI.1
          replace hI := hI.2
          have f1 := hide hI.1
          replace hI := hI.2
          have f2 := hide hI.1
          replace hI := hI.2
          have f3 := hide hI.1
          replace hI := hI.2
          have f4 := hide hI.1
          replace hI := hI.2
          have f5 := hide hI.1
          replace hI := hI.2
          have f6 := hide hI.1
          replace hI := hI.2
          have f7 := hide hI.1
          replace hI := hI.2
          have f8 := hide hI.1
          replace hI := hI.2
          have f9 := hide hI.1
          replace hI := hI.2
          have f10 := hide hI.1
          replace hI := hI.2
          have f11 := hide hI.1
          replace hI := hI.2
          have f12 := hide hI.1
          replace hI := hI.2
          have f13 := hide hI.1
          replace hI := hI.2
          have f14 := hide hI.1
          replace hI := hI.2
          have f15 := hide hI.1
          replace hI := hI.2
          have f16 := hide hI.1
          replace hI := hI.2
          have f17 := hide hI.1
          replace hI := hI.2
          have f18 := hide hI.1
          replace hI := hI.2
          have f19 := hide hI.1
          replace hI := hI.2
          have f20 := hide hI.1
          replace hI := hI.2
          have f21 := hide hI.1
          replace hI := hI.2
          have f22 := hide hI.1
          replace hI := hI.2
          have f23 := hide hI.1
          replace hI := hI.2
          have f24 := hide hI.1
          replace hI := hI.2
          have f25 := hide hI
          clear hI
          have c0 := keep hG c0
          have c1 := keep hG c1
          have p0 := keep hG p0
          have p1 := keep hG p1
          have p2 := keep hG p2
          have p3 := keep hG p3
          have q0 := keep hG q0
          have q1 := keep hG q1
          have q2 := keep hG q2
          have q3 := keep hG q3
          have o0 := keep hG o0
          have o1 := keep hG o1
          have o2 := keep hG o2
          have o3 := keep hG o3
          have o4 := keep hG o4
          try simp only [puts, Act.put, List.setIfInBounds_toArray, List.set_cons_zero, List.set_cons_succ]
          try go_simp
          exact hK.out _ _ _ (by simp only [puts, Act.put, List.setIfInBounds_toArray, List.set_cons_zero, List.set_cons_succ] <;> rfl) ⟨hG, (fun h => f0.out h), (fun h => f1.out h), (fun h => f2.out h), (fun h => f3.out h), (fun _ => rfl), (fun h => f5.out h), (fun h => f6.out h), (fun h => f7.out h), (fun h => f8.out h), (fun h => f9.out h), (fun h => f10.out h), (fun h => f11.out h), (fun h => f12.out h), (fun h => f13.out h), (fun h => f14.out h), (fun h => f15.out h), (fun h => f16.out h), (fun h => f17.out h), (fun h => f18.out h), (fun h => f19.out h), (fun h => f20.out h), (fun h => f21.out h), (fun h => f22.out h), (fun h => f23.out h), (fun h => f24.out h), (fun h => f25.out h)⟩
        · intro L vs W hlen hL hD hI K hK
          obtain ⟨x0, x1, x2, x3, x4, x5, x6, x7, x8, x9, x10, x11, x12, x13, x14, x15, x16, x17, x18, x19, x20, x21, x22, x23, x24, x25, rfl⟩ := len26 hlen
          have hG := hI.1
          replace hI := hI.2
          have f0 := hide hI.1
          replace hI := hI.2
          have f1 := hide hI.1
          replace hI := hI.2
          have f2 := hide hI.1
          replace hI := hI.2
          have f3 := hide hI.1
          replace hI := hI.2
          have f4 := hide hI.1
          replace hI := hI.2
          have f5 := hide hI.1
          replace hI := hI.2
          have f6 := hide hI.1
          replace hI := hI.2
          have f7 := hide hI.1
          replace hI := hI.2
          have f8 := hide hI.1
          replace hI := hI.2
          have f9 := hide hI.1
          replace hI := hI.2
          have f10 := hide hI.1
          replace hI := hI.2
          have f11 := hide hI.1
          replace hI := hI.2
          have f12 := hide hI.1
          replace hI := hI.2
          have f13 := hide hI.1
          replace hI := hI.2
          have f14 := hide hI.1
          replace hI := hI.2
          have f15 := hide hI.1
          replace hI := hI.2
          have f16 := hide hI.1
          replace hI := hI.2
          have f17 := hide hI.1
          replace hI := hI.2
          have f18 := hide hI.1
          replace hI := hI.2
          have f19 := hide hI.1
          replace hI := hI.2
          have f20 := hide hI.1
          replace hI := hI.2
          have f21 := hide hI.1
          replace hI := hI.2
          have f22 := hide hI.1
          replace hI := hI.2
          have f23 := hide hI.1
          replace hI := hI.2
          have f24 := hide hI.1
          replace hI := hI.2
          have f25 := hide hI
          clear hI
          have c0 := keep hG c0
          have c1 := keep hG c1
          have p0 := keep hG p0
          have p1 := keep hG p1
          have p2 := keep hG p2
          have p3 := keep hG p3
          have q0 := keep hG q0
          have q1 := keep hG q1
          have q2 := keep hG q2
          have q3 := keep hG q3
          have o0 := keep hG o0
          have o1 := keep hG o1
          have o2 := keep hG o2
          have o3 := keep hG o3
          have o4 := keep hG o4
          obtain rfl := f3.out (hD.on 3 (by kernel_rfl))
          obtain rfl := f4.out (hD.on 4 (by kernel_rfl))
          try simp only [puts, Act.put, List.setIfInBounds_toArray, List.set_cons_zero, List.set_cons_succ]
          try go_simp
          exact hK.out _ _ _ (by simp only [puts, Act.put, List.setIfInBounds_toArray, List.set_cons_zero, List.set_cons_succ] <;> rfl) ⟨hG, (fun h => f0.out h), (fun h => f1.out h), (fun h => f2.out h), (fun h => f3.out h), (fun h => f4.out h), (fun _ => rfl), (fun h => f6.out h), (fun h => f7.out h), (fun h => f8.out h), (fun h => f9.out h), (fun h => f10.out h), (fun h => f11.out h), (fun h => f12.out h), (fun h => f13.out h), (fun h => f14.out h), (fun h => f15.out h), (fun h => f16.out h), (fun h => f17.out h), (fun h => f18.out h), (fun h => f19.out h), (fun h => f20.out h), (fun h => f21.out h), (fun h => f22.out h), (fun h => f23.out h), (fun h => f24.out h), (fun h => f25.out h)⟩
        · intro L vs W hlen hL hD hI K hK
          obtain ⟨x0, x1, x2, x3, x4, x5, x6, x7, x8, x9, x10, x11, x12, x13, x14, x15, x16, x17, x18, x19, x20, x21, x22, x23, x24, x25, rfl⟩ := len26 hlen
          have hG := hI.1
          replace hI := hI.2
          have f0 := hide hI.1
          replace hI := hI.2
          have f1 := hide hI.1
          replace hI := hI.2
          have f2 := hide hI.1
          replace hI := hI.2
          have f3 := hide hI.1
          replace hI := hI.2
          have f4 := hide hI.1
          replace hI := hI.2
          have f5 := hide hI.1
          replace hI := hI.2
          have f6 := hide hI.1
          replace hI := hI.2
          have f7 := hide hI.1
          replace hI := hI.2
          have f8 := hide hI.1
          replace hI := hI.2
          have f9 := hide hI.1
          replace hI := hI.2
          have f10 := hide hI.1
          replace hI := hI.2
          have f11 := hide hI.1
          replace hI := hI.2
          have f12 := hide hI.1
          replace hI := hI.2
          have f13 := hide hI.1
          replace hI := hI.2
          have f14 := hide hI.1
          replace hI := hI.2
          have f15 := hide hI.1
          replace hI := hI.2
          have f16 := hide hI.1
          replace hI := hI.2
          have f17 := hide hI.1
          replace hI := hI.2
          have f18 := hide hI.1
          replace hI := hI.2
          have f19 := hide hI.1
          replace hI := hI.2
          have f20 := hide hI.1
          replace hI := hI.2
          have f21 := hide hI.1
          replace hI := hI.2
          have f22 := hide hI.1
          replace hI := hI.2
          have f23 := hide hI.1
          replace hI := hI.2
          have f24 := hide hI.1
          replace hI := hI.2
          have f25 := hide hI
          clear hI
          have c0 := keep hG c0
          have c1 := keep hG c1
          have p0 := keep hG p0
          have p1 := keep hG p1
          have p2 := keep hG p2
          have p3 := keep hG p3
          have q0 := keep hG q0
          have q1 := keep hG q1
          have q2 := keep hG q2
          have q3 := keep hG q3
          have o0 := keep hG o0
          have o1 := keep hG o1
          have o2 := keep hG o2
          have o3 := keep hG o3
          have o4 := keep hG o4
          obtain rfl := f5.out (hD.on 5 (by kernel_rfl))
          try simp only [puts, Act.put, List.setIfInBounds_toArray, List.set_cons_zero, List.set_cons_succ]
          try go_simp
          exact hK.out _ _ _ (by simp only [puts, Act.put, List.setIfInBounds_toArray, List.set_cons_zero, List.set_cons_succ] <;> rfl) ⟨hG, (fun h => f0.out h), (fun h => f1.out h), (fun h => f2.out h), (fun h => f3.out h), (fun h => f4.out h), (fun h => f5.out h), (fun _ => rfl), (fun h => f7.out h), (fun h => f8.out h), (fun h => f9.out h), (fun h => f10.out h), (fun h => f11.out h), (fun h => f12.out h), (fun h => f13.out h), (fun h => f14.out h), (fun h => f15.out h), (fun h => f16.out h), (fun h => f17.out h), (fun h => f18.out h), (fun h => f19.out h), (fun h => f20.out h), (fun h => f21.out h), (fun h => f22.out h), (fun h => f23.out h), (fun h => f24.out h), (fun h => f25.out h)⟩
        · intro L vs W hlen hL hD hI K hK
          obtain ⟨x0, x1, x2, x3, x4, x5, x6, x7, x8, x9, x10, x11, x12, x13, x14, x15, x16, x17, x18, x19, x20, x21, x22, x23, x24, x25, rfl⟩ := len26 hlen
          have hG := hI.1
          replace hI := hI.2
          have f0 := hide hI.1
          replace hI := hI.2
          have f1 := hide hI.1
          replace hI := hI.2
          have f2 := hide hI.1
          replace hI := hI.2
          have f3 := hide hI.1
          replace hI := hI.2
          have f4 := hide hI.1
          replace hI := hI.2
          have f5 := hide hI.1
          replace hI := hI.2
          have f6 := hide hI.1
          replace hI := hI.2
          have f7 := hide hI.1
          replace hI := hI.2
          have f8 := hide hI.1
          replace hI := hI.2
          have f9 := hide hI.1
          replace hI := hI.2
          have f10 := hide hI.1
          replace hI := hI.2
          have f11 := hide hI.1
          replace hI := hI.2
          have f12 := hide hI.1
          replace hI := hI.2
          have f13 := hide hI.1
          replace hI := hI.2
          have f14 := hide hI.1
          replace hI := hI.2
          have f15 := hide hI.1
          replace hI := hI.2
          have f16 := hide hI.1
          replace hI := hI.2
          have f17 := hide hI.1
          replace hI := hI.2
          have f18 := hide hI.1
          replace hI := hI.2
          have f19 := hide hI.1
          replace hI := hI.2
          have f20 := hide hI.1
          replace hI := hI.2
          have f21 := hide hI.1
          replace hI := hI.2
          have f22 := hide hI.1
          replace hI := hI.2
          have f23 := hide hI.1
          replace hI := hI.2
          have f24 := hide hI.1
          replace hI := hI.2
          have f25 := hide hI
          clear hI
          have c0 := keep hG c0
          have c1 := keep hG c1
          have p0 := keep hG p0
          have p1 := keep hG p1
          have p2 := keep hG p2
          have p3 := keep hG p3
          have q0 := keep hG q0
          have q1 := keep hG q1
          have q2 := keep hG q2
          have q3 := keep hG q3
          have o0 := keep hG o0
          have o1 := keep hG o1
          have o2 := keep hG o2
          have o3 := keep hG o3
          have o4 := keep hG o4
          obtain rfl := f6.out (hD.on 6 (by kernel_rfl))
          try simp only [puts, Act.put, List.setIfInBounds_toArray, List.set_cons_zero, List.set_cons_succ]
          try go_simp
          exact hK.out _ _ _ (by simp only [puts, Act.put, List.setIfInBounds_toArray, List.set_cons_zero, List.set_cons_succ] <;> rfl) ⟨hG, (fun h => f0.out h), (fun h => f1.out h), (fun h => f2.out h), (fun h => f3.out h), (fun h => f4.out h), (fun h => f5.out h), (fun h => f6.out h), (fun _ => rfl), (fun h => f8.out h), (fun h => f9.out h), (fun h => f10.out h), (fun h => f11.out h), (fun h => f12.out h), (fun h => f13.out h), (fun h => f14.out h), (fun h => f15.out h), (fun h => f16.out h), (fun h => f17.out h), (fun h => f18.out h), (fun h => f19.out h), (fun h => f20.out h), (fun h => f21.out h), (fun h => f22.out h), (fun h => f23.out h), (fun h => f24.out h), (fun h => f25.out h)⟩
        · intro L vs W hlen hL hD hI K hK
          obtain ⟨x0, x1, x2, x3, x4, x5, x6, x7, x8, x9, x10, x11, x12, x13, x14, x15, x16, x17, x18, x19, x20, x21, x22, x23, x24, x25, rfl⟩ := len26 hlen
          have hG := hI.1
          replace hI := hI.2
          have f0 := hide hI.1
          replace hI := hI.2
          have f1 := hide hI.1
          replace hI := hI.2
          have f2 := hide hI.1
          replace hI := hI.2
          have f3 := hide hI.1
          replace hI := hI.2
          have f4 := hide hI.1
          replace hI := hI.2
          have f5 := hide hI.1
          replace hI := hI.2
          have f6 := hide hI.1
          replace hI := hI.2
          have f7 := hide hI.1
          replace hI := hI.2
          have f8 := hide hI.1
          replace hI := hI.2
          have f9 := hide hI.1
          replace hI := hI.2
          have f10 := hide hI.1
          replace hI := hI.2
          have f11 := hide hI.1
          replace hI := hI.2
          have f12 := hide hI.1
          replace hI := hI.2
          have f13 := hide hI.1
          replace hI := hI.2
          have f14 := hide hI.1
          replace hI := hI.2
          have f15 := hide hI.1
          replace hI := hI.2
          have f16 := hide hI.1
          replace hI := hI.2
          have f17 := hide hI.1
          replace hI := hI.2
          have f18 := hide hI.1
          replace hI := hI.2
          have f19 := hide hI.1
          replace hI := hI.2
          have f20 := hide hI.1
          replace hI := hI.2
          have f21 := hide hI.1
          replace hI := hI.2
          have f22 := hide hI.1
          replace hI := hI.2
          have f23 := hide hI.1
          replace hI := hI.2
          have f24 := hide hI.1
          replace hI := hI.2
          have f25 := hide hI
          clear hI
          have c0 := keep hG c0
          have c1 := keep hG c1
          have p0 := keep hG p0
          have p1 := keep hG p1
          have p2 := keep hG p2
          have p3 := keep hG p3
          have q0 := keep hG q0
          have q1 := keep hG q1
          have q2 := keep hG q2
          have q3 := keep hG q3
          have o0 := keep hG o0
          have o1 := keep hG o1
          have o2 := keep hG o2
          have o3 := keep hG o3
          have o4 := keep hG o4
          obtain rfl := f2.out (hD.on 2 (by kernel_rfl))
          obtain rfl := f7.out (hD.on 7 (by kernel_rfl))
          try simp only [puts, Act.put, List.setIfInBounds_toArray, List.set_cons_zero, List.set_cons_succ]
          try go_simp
          exact hK.out _ _ _ (by simp only [puts, Act.put, List.setIfInBounds_toArray, List.set_cons_zero, List.set_cons_succ] <;> rfl) ⟨hG, (fun h => f0.out h), (fun h => f1.out h), (fun h => f2.out h), (fun h => f3.out h), (fun h => f4.out h), (fun h => f5.out h), (fun h => f6.out h), (fun h => f7.out h), (fun _ => rfl), (fun h => f9.out h), (fun h => f10.out h), (fun h => f11.out h), (fun h => f12.out h), (fun h => f13.out h), (fun h => f14.out h), (fun h => f15.out h), (fun h => f16.out h), (fun h => f17.out h), (fun h => f18.out h), (fun h => f19.out h), (fun h => f20.out h), (fun h => f21.out h), (fun h => f22.out h), (fun h => f23.out h), (fun h => f24.out h), (fun h => f25.out h)⟩
        · intro L vs W hlen hL hD hI K hK
          obtain ⟨x0, x1, x2, x3, x4, x5, x6, x7, x8, x9, x10, x11, x12, x13, x14, x15, x16, x17, x18, x19, x20, x21, x22, x23, x24, x25, rfl⟩ := len26 hlen
          have hG := hI.1
          replace hI := hI.2
          have f0 := hide hI.1
          replace hI := hI.2
          have f1 := hide hI.1
          replace hI := hI.2
          have f2 := hide hI.1
          replace hI := hI.2
          have f3 := hide hI.1
          replace hI := hI.2
          have f4 := hide hI.1
          replace hI := hI.2
          have f5 := hide hI.1
          replace hI := hI.2
          have f6 := hide hI.1
          replace hI := hI.2
          have f7 := hide hI.1
          replace hI := hI.2
          have f8 := hide hI.1
          replace hI := hI.2
          have f9 := hide hI.1
          replace hI := hI.2
          have f10 := hide hI.1
          replace hI := hI.2
          have f11 := hide hI.1
          replace hI := hI.2
          have f12 := hide hI.1
          replace hI := hI.2
          have f13 := hide hI.1
          replace hI := hI.2
          have f14 := hide hI.1
          replace hI := hI.2
          have f15 := hide hI.1
          replace hI := hI.2
          have f16 := hide hI.1
          replace hI := hI.2
          have f17 := hide hI.1
          replace hI := hI.2
          have f18 := hide hI.1
          replace hI := hI.2
          have f19 := hide hI.1
          replace hI := hI.2
          have f20 := hide hI.1
          replace hI := hI.2
          have f21 := hide hI.1
          replace hI := hI.2
          have f22 := hide hI.1
          replace hI := hI.2
          have f23 := hide hI.1
          replace hI := hI.2
          have f24 := hide hI.1
          replace hI := hI.2
          have f25 := hide hI
          clear hI
          have c0 := keep hG c0
          have c1 := keep hG c1
          have p0 := keep hG p0
          have p1 := keep hG p1
          have p2 := keep hG p2
          have p3 := keep hG p3
          have q0 := keep hG q0
          have q1 := keep hG q1
          have q2 := keep hG q2
          have q3 := keep hG q3
          have o0 := keep hG o0
          have o1 := keep hG o1
          have o2 := keep hG o2
          have o3 := keep hG o3
          have o4 := keep hG o4
          obtain rfl := f8.out (hD.on 8 (by kernel_rfl))
          try simp only [puts, Act.put, List.setIfInBounds_toArray, List.set_cons_zero, List.set_cons_succ]
          try go_simp
          exact hK.out _ _ _ (by simp only [puts, Act.put, List.setIfInBounds_toArray, List.set_cons_zero, List.set_cons_succ] <;> rfl) ⟨hG, (fun h => f0.out h), (fun h => f1.out h), (fun h => f2.out h), (fun h => f3.out h), (fun h => f4.out h), (fun h => f5.out h), (fun h => f6.out h), (fun h => f7.out h), (fun h => f8.out h), (fun _ => rfl), (fun h => f10.out h), (fun h => f11.out h), (fun h => f12.out h), (fun h => f13.out h), (fun h => f14.out h), (fun h => f15.out h), (fun h => f16.out h), (fun h => f17.out h), (fun h => f18.out h), (fun h => f19.out h), (fun h => f20.out h), (fun h => f21.out h), (fun h => f22.out h), (fun h => f23.out h), (fun h => f24.out h), (fun h => f25.out h)⟩
        · intro L vs W hlen hL hD hI K hK
          obtain ⟨x0, x1, x2, x3, x4, x5, x6, x7, x8, x9, x10, x11, x12, x13, x14, x15, x16, x17, x18, x19, x20, x21, x22, x23, x24, x25, rfl⟩ := len26 hlen
          have hG := hI.1
          replace hI := hI.2
          have f0 := hide hI.1
          replace hI := hI.2
          have f1 := hide hI.1
          replace hI := hI.2
          have f2 := hide hI.1
          replace hI := hI.2
          have f3 := hide hI.1
          replace hI := hI.2
          have f4 := hide hI.1
          replace hI := hI.2
          have f5 := hide hI.1
          replace hI := hI.2
          have f6 := hide hI.1
          replace hI := hI.2
          have f7 := hide hI.1
          replace hI := hI.2
          have f8 := hide hI.1
          replace hI := hI.2
          have f9 := hide hI.1
          replace hI := hI.2
          have f10 := hide hI.1
          replace hI := hI.2
          have f11 := hide hI.1
          replace hI := hI.2
          have f12 := hide hI.1
          replace hI := hI.2
          have f13 := hide hI.1
          replace hI := hI.2
          have f14 := hide hI.1
          replace hI := hI.2
          have f15 := hide hI.1
          replace hI := hI.2
          have f16 := hide hI.1
          replace hI := hI.2
          have f17 := hide hI.1
          replace hI := hI.2
          have f18 := hide hI.1
          replace hI := hI.2
          have f19 := hide hI.1
          replace hI := hI.2
          have f20 := hide hI.1
          replace hI := hI.2
          have f21 := hide hI.1
          replace hI := hI.2
          have f22 := hide hI.1
          replace hI := hI.2
          have f23 := hide hI.1
          replace hI := hI.2
          have f24 := hide hI.1
          replace hI := hI.2
          have f25 := hide hI
          clear hI
          have c0 := keep hG c0
          have c1 := keep hG c1
          have p0 := keep hG p0
          have p1 := keep hG p1
          have p2 := keep hG p2
          have p3 := keep hG p3
          have q0 := keep hG q0
          have q1 := keep hG q1
          have q2 := keep hG q2
          have q3 := keep hG q3
          have o0 := keep hG o0
          have o1 := keep hG o1
          have o2 := keep hG o2
          have o3 := keep hG o3
          have o4 := keep hG o4
          try simp only [puts, Act.put, List.setIfInBounds_toArray, List.set_cons_zero, List.set_cons_succ]
          try go_simp
          exact hK.out _ _ _ (by simp only [puts, Act.put, List.setIfInBounds_toArray, List.set_cons_zero, List.set_cons_succ] <;> rfl) ⟨hG, (fun h => f0.out h), (fun h => f1.out h), (fun h => f2.out h), (fun h => f3.out h), (fun h => f4.out h), (fun h => f5.out h), (fun h => f6.out h), (fun h => f7.out h), (fun h => f8.out h), (fun h => f9.out h), (fun _ => rfl), (fun h => f11.out h), (fun h => f12.out h), (fun h => f13.out h), (fun h => f14.out h), (fun h => f15.out h), (fun h => f16.out h), (fun h => f17.out h), (fun h => f18.out h), (fun h => f19.out h), (fun h => f20.out h), (fun h => f21.out h), (fun h => f22.out h), (fun h => f23.out h), (fun h => f24.out h), (fun h => f25.out h)⟩
        · intro L vs W hlen hL hD hI K hK
          obtain ⟨x0, x1, x2, x3, x4, x5, x6, x7, x8, x9, x10, x11, x12, x13, x14, x15, x16, x17, x18, x19, x20, x21, x22, x23, x24, x25, rfl⟩ := len26 hlen
          have hG := hI.1
          replace hI := hI.2
          have f0 := hide hI.1
          replace hI := hI.2
          have f1 := hide hI.1
          replace hI := hI.2
          have f2 := hide hI.1
          replace hI := hI.2
          have f3 := hide hI.1
          replace hI := hI.2
          have f4 := hide hI.1
          replace hI := hI.2
          have f5 := hide hI.1
          replace hI := hI.2
          have f6 := hide hI.1
          replace hI := hI.2
          have f7 := hide hI.1
          replace hI := hI.2
          have f8 := hide hI.1
          replace hI := hI.2
          have f9 := hide hI.1
          replace hI := hI.2
          have f10 := hide hI.1
          replace hI := hI.2
          have f11 := hide hI.1
          replace hI := hI.2
          have f12 := hide hI.1
          replace hI := hI.2
          have f13 := hide hI.1
          replace hI := hI.2
          have f14 := hide hI.1
          replace hI := hI.2
          have f15 := hide hI.1
          replace hI := hI.2
          have f16 := hide hI.1
          replace hI := hI.2
          have f17 := hide hI.1
          replace hI := hI.2
          have f18 := hide hI.1
          replace hI := hI.2
          have f19 := hide hI.1
          replace hI := hI.2
          have f20 := hide hI.1
          replace hI := hI.2
          have f21 := hide hI.1
          replace hI := hI.2
          have f22 := hide hI.1
          replace hI := hI.2
          have f23 := hide hI.1
          replace hI := hI.2
          have f24 := hide hI.1
          replace hI := hI.2
          have f25 := hide hI
          clear hI
          have c0 := keep hG c0
          have c1 := keep hG c1
          have p0 := keep hG p0
          have p1 := keep hG p1
          have p2 := keep hG p2
          have p3 := keep hG p3
          have q0 := keep hG q0
          have q1 := keep hG q1
          have q2 := keep hG q2
          have q3 := keep hG q3
          have o0 := keep hG o0
          have o1 := keep hG o1
          have o2 := keep hG o2
          have o3 := keep hG o3
          have o4 := keep hG o4
          try simp only [puts, Act.put, List.setIfInBounds_toArray, List.set_cons_zero, List.set_cons_succ]
          try go_simp
          exact hK.out _ _ _ (by simp only [puts, Act.put, List.setIfInBounds_toArray, List.set_cons_zero, List.set_cons_succ] <;> rfl) ⟨hG, (fun h => f0.out h), (fun h => f1.out h), (fun h => f2.out h), (fun h => f3.out h), (fun h => f4.out h), (fun h => f5.out h), (fun h => f6.out h), (fun h => f7.out h), (fun h => f8.out h), (fun h => f9.out h), (fun h => f10.out h), (fun _ => rfl), (fun h => f12.out h), (fun h => f13.out h), (fun h => f14.out h), (fun h => f15.out h), (fun h => f16.out h), (fun h => f17.out h), (fun h => f18.out h), (fun h => f19.out h), (fun h => f20.out h), (fun h => f21.out h), (fun h => f22.out h), (fun h => f23.out h), (fun h => f24.out h), (fun h => f25.out h)⟩
        · intro L vs W hlen hL hD hI K hK
          obtain ⟨x0, x1, x2, x3, x4, x5, x6, x7, x8, x9, x10, x11, x12, x13, x14, x15, x16, x17, x18, x19, x20, x21, x22, x23, x24, x25, rfl⟩ := len26 hlen
          have hG := hI.1
          replace hI := hI.2
          have f0 := hide hI.1
          replace hI := hI.2
          have f1 := hide hI.1
          replace hI := hI.2
          have f2 := hide hI.1
          replace hI := hI.2
          have f3 := hide hI.1
          replace hI := hI.2
          have f4 := hide hI.1
          replace hI := hI.2
          have f5 := hide hI.1
          replace hI := hI.2
          have f6 := hide hI.1
          replace hI := hI.2
          have f7 := hide hI.1
          replace hI := hI.2
          have f8 := hide hI.1
          replace hI := hI.2
          have f9 := hide hI.1
          replace hI := hI.2
          have f10 := hide hI.1
          replace hI := hI.2
          have f11 := hide hI.1
          replace hI := hI.2
          have f12 := hide hI.1
          replace hI := hI.2
          have f13 := hide hI.1
          replace hI := hI.2
          have f14 := hide hI.1
          replace hI := hI.2
          have f15 := hide hI.1
          replace hI := hI.2
          have f16 := hide hI.1
          replace hI := hI.2
          have f17 := hide hI.1
          replace hI := hI.2
          have f18 := hide hI.1
          replace hI := hI.2
          have f19 := hide hI.1
          replace hI := hI.2
          have f20 := hide hI.1
          replace hI := hI.2
          have f21 := hide hI.1
          replace hI := hI.2
          have f22 := hide hI.1
          replace hI := hI.2
          have f23 := hide hI.1
          replace hI := hI.2
          have f24 := hide hI.1
          replace hI := hI.2
          have f25 := hide hI
          clear hI
          have c0 := keep hG c0
          have c1 := keep hG c1
          have p0 := keep hG p0
          have p1 := keep hG p1
          have p2 := keep hG p2
          have p3 := keep hG p3
          have q0 := keep hG q0
          have q1 := keep hG q1
          have q2 := keep hG q2
          have q3 := keep hG q3
          have o0 := keep hG o0
          have o1 := keep hG o1
          have o2 := keep hG o2
          have o3 := keep hG o3
          have o4 := keep hG o4
          try simp only [puts, Act.put, List.setIfInBounds_toArray, List.set_cons_zero, List.set_cons_succ]
          try go_simp
          exact hK.out _ _ _ (by simp only [puts, Act.put, List.setIfInBounds_toArray, List.set_cons_zero, List.set_cons_succ] <;> rfl) ⟨hG, (fun h => f0.out h), (fun h => f1.out h), (fun h => f2.out h), (fun h => f3.out h), (fun h => f4.out h), (fun h => f5.out h), (fun h => f6.out h), (fun h => f7.out h), (fun h => f8.out h), (fun h => f9.out h), (fun h => f10.out h), (fun h => f11.out h), (fun _ => rfl), (fun h => f13.out h), (fun h => f14.out h), (fun h => f15.out h), (fun h => f16.out h), (fun h => f17.out h), (fun h => f18.out h), (fun h => f19.out h), (fun h => f20.out h), (fun h => f21.out h), (fun h => f22.out h), (fun h => f23.out h), (fun h => f24.out h), (fun h => f25.out h)⟩
        · intro L vs W hlen hL hD hI K hK
          obtain ⟨x0, x1, x2, x3, x4, x5, x6, x7, x8, x9, x10, x11, x12, x13, x14, x15, x16, x17, x18, x19, x20, x21, x22, x23, x24, x25, rfl⟩ := len26 hlen
          have hG := hI.1
          replace hI := hI.2
          have f0 := hide hI.1
          replace hI := hI.2
          have f1 := hide hI.1
          replace hI := hI.2
          have f2 := hide hI.1
          replace hI := hI.2
          have f3 := hide hI.1
          replace hI := hI.2
          have f4 := hide hI.1
          replace hI := hI.2
          have f5 := hide hI.1
          replace hI := hI.2
          have f6 := hide hI.1
          replace hI := hI.2
          have f7 := hide hI.1
          replace hI := hI.2
          have f8 := hide hI.1
          replace hI := hI.2
          have f9 := hide hI.1
          replace hI := hI.2
          have f10 := hide hI.1
          replace hI := hI.2
          have f11 := hide hI.1
          replace hI := hI.2
          have f12 := hide hI.1
          replace hI := hI.2
          have f13 := hide hI.1
          replace hI := hI.2
          have f14 := hide hI.1
          replace hI := hI.2
          have f15 := hide hI.1
          replace hI := hI.2
          have f16 := hide hI.1
          replace hI := hI.2
          have f17 := hide hI.1
          replace hI := hI.2
          have f18 := hide hI.1
          replace hI := hI.2
          have f19 := hide hI.1
          replace hI := hI.2
          have f20 := hide hI.1
          replace hI := hI.2
          have f21 := hide hI.1
          replace hI := hI.2
          have f22 := hide hI.1
          replace hI := hI.2
          have f23 := hide hI.1
          replace hI := hI.2
          have f24 := hide hI.1
          replace hI := hI.2
          have f25 := hide hI
          clear hI
          have c0 := keep hG c0
          have c1 := keep hG c1
          have p0 := keep hG p0
          have p1 := keep hG p1
          have p2 := keep hG p2
          have p3 := keep hG p3
          have q0 := keep hG q0
          have q1 := keep hG q1
          have q2 := keep hG q2
          have q3 := keep hG q3
          have o0 := keep hG o0
          have o1 := keep hG o1
          have o2 := keep hG o2
          have o3 := keep hG o3
          have o4 := keep hG o4
          obtain rfl := f11.out (hD.on 11 (by kernel_rfl))
          obtain rfl := f12.out (hD.on 12 (by kernel_rfl))
          try simp only [puts, Act.put, List.setIfInBounds_toArray, List.set_cons_zero, List.set_cons_succ]
          try go_simp
          exact hK.out _ _ _ (by simp only [puts, Act.put, List.setIfInBounds_toArray, List.set_cons_zero, List.set_cons_succ] <;> rfl) ⟨hG, (fun h => f0.out h), (fun h => f1.out h), (fun h => f2.out h), (fun h => f3.out h), (fun h => f4.out h), (fun h => f5.out h), (fun h => f6.out h), (fun h => f7.out h), (fun h => f8.out h), (fun h => f9.out h), (fun h => f10.out h), (fun h => f11.out h), (fun h => f12.out h), (fun _ => rfl), (fun h => f14.out h), (fun h => f15.out h), (fun h => f16.out h), (fun h => f17.out h), (fun h => f18.out h), (fun h => f19.out h), (fun h => f20.out h), (fun h => f21.out h), (fun h => f22.out h), (fun h => f23.out h), (fun h => f24.out h), (fun h => f25.out h)⟩
        · intro L vs W hlen hL hD hI K hK
          obtain ⟨x0, x1, x2, x3, x4, x5, x6, x7, x8, x9, x10, x11, x12, x13, x14, x15, x16, x17, x18, x19, x20, x21, x22, x23, x24, x25, rfl⟩ := len26 hlen
          have hG := hI.1
          replace hI := hI.2
          have f0 := hide hI.1
          replace hI := hI.2
          have f1 := hide hI.1
          replace hI := hI.2
          have f2 := hide hI.1
          replace hI := hI.2
          have f3 := hide hI.1
          replace hI := hI.2
          have f4 := hide hI.1
          replace hI := hI.2
          have f5 := hide hI.1
          replace hI := hI.2
          have f6 := hide hI.1
          replace hI := hI.2
          have f7 := hide hI.1
          replace hI := hI.2
          have f8 := hide hI.1
          replace hI := hI.2
          have f9 := hide hI.1
          replace hI := hI.2
          have f10 := hide hI.1
          replace hI := hI.2
          have f11 := hide hI.1
          replace hI := hI.2
          have f12 := hide hI.1
          replace hI := hI.2
          have f13 := hide hI.1
          replace hI := hI.2
          have f14 := hide hI.1
          replace hI := hI.2
          have f15 := hide hI.1
          replace hI := hI.2
          have f16 := hide hI.1
          replace hI := hI.2
          have f17 := hide hI.1
          replace hI := hI.2
          have f18 := hide hI.1
          replace hI := hI.2
          have f19 := hide hI.1
          replace hI := hI.2
          have f20 := hide hI.1
          replace hI := hI.2
          have f21 := hide hI.1
          replace hI := hI.2
          have f22 := hide hI.1
          replace hI := hI.2
          have f23 := hide hI.1
          replace hI := hI.2
          have f24 := hide hI.1
          replace hI := hI.2
          have f25 := hide hI
          clear hI
          have c0 := keep hG c0
          have c1 := keep hG c1
          have p0 := keep hG p0
          have p1 := keep hG p1
          have p2 := keep hG p2
          have p3 := keep hG p3
          have q0 := keep hG q0
          have q1 := keep hG q1
          have q2 := keep hG q2
          have q3 := keep hG q3
          have o0 := keep hG o0
          have o1 := keep hG o1
          have o2 := keep hG o2
          have o3 := keep hG o3
          have o4 := keep hG o4
          obtain rfl := f13.out (hD.on 13 (by kernel_rfl))
          try simp only [puts, Act.put, List.setIfInBounds_toArray, List.set_cons_zero, List.set_cons_succ]
          try go_simp
          exact hK.out _ _ _ (by simp only [puts, Act.put, List.setIfInBounds_toArray, List.set_cons_zero, List.set_cons_succ] <;> rfl) ⟨hG, (fun h => f0.out h), (fun h => f1.out h), (fun h => f2.out h), (fun h => f3.out h), (fun h => f4.out h), (fun h => f5.out h), (fun h => f6.out h), (fun h => f7.out h), (fun h => f8.out h), (fun h => f9.out h), (fun h => f10.out h), (fun h => f11.out h), (fun h => f12.out h), (fun h => f13.out h), (fun _ => rfl), (fun h => f15.out h), (fun h => f16.out h), (fun h => f17.out h), (fun h => f18.out h), (fun h => f19.out h), (fun h => f20.out h), (fun h => f21.out h), (fun h => f22.out h), (fun h => f23.out h), (fun h => f24.out h), (fun h => f25.out h)⟩
        · intro L vs W hlen hL hD hI K hK
          obtain ⟨x0, x1, x2, x3, x4, x5, x6, x7, x8, x9, x10, x11, x12, x13, x14, x15, x16, x17, x18, x19, x20, x21, x22, x23, x24, x25, rfl⟩ := len26 hlen
          have hG := hI.1
          replace hI := hI.2
          have f0 := hide hI.1
          replace hI := hI.2
          have f1 := hide hI.1
          replace hI := hI.2
          have f2 := hide hI.1
          replace hI := hI.2
          have f3 := hide hI.1
          replace hI := hI.2
          have f4 := hide hI.1
          replace hI := hI.2
          have f5 := hide hI.1
          replace hI := hI.2
          have f6 := hide hI.1
          replace hI := hI.2
          have f7 := hide hI.1
          replace hI := hI.2
          have f8 := hide hI.1
          replace hI := hI.2
          have f9 := hide hI.1
          replace hI := hI.2
          have f10 := hide hI.1
          replace hI := hI.2
          have f11 := hide hI.1
          replace hI := hI.2
          have f12 := hide hI.1
          replace hI := hI.2
          have f13 := hide hI.1
          replace hI := hI.2
          have f14 := hide hI.1
          replace hI := hI.2
          have f15 := hide hI.1
          replace hI := hI.2
          have f16 := hide hI.1
          replace hI := hI.2
          have f17 := hide hI.1
          replace hI := hI.2
          have f18 := hide hI.1
          replace hI := hI.2
          have f19 := hide hI.1
          replace hI := hI.2
          have f20 := hide hI.1
          replace hI := hI.2
          have f21 := hide hI.1
          replace hI := hI.2
          have f22 := hide hI.1
          replace hI := hI.2
          have f23 := hide hI.1
          replace hI := hI.2
          have f24 := hide hI.1
          replace hI := hI.2
          have f25 := hide hI
          clear hI
          have c0 := keep hG c0
          have c1 := keep hG c1
          have p0 := keep hG p0
          have p1 := keep hG p1
          have p2 := keep hG p2
          have p3 := keep hG p3
          have q0 := keep hG q0
          have q1 := keep hG q1
          have q2 := keep hG q2
          have q3 := keep hG q3
          have o0 := keep hG o0
          have o1 := keep hG o1
          have o2 := keep hG o2
          have o3 := keep hG o3
          have o4 := keep hG o4
          obtain rfl := f14.out (hD.on 14 (by kernel_rfl))
          try simp only [puts, Act.put, List.setIfInBounds_toArray, List.set_cons_zero, List.set_cons_succ]
          try go_simp
          exact hK.out _ _ _ (by simp only [puts, Act.put, List.setIfInBounds_toArray, List.set_cons_zero, List.set_cons_succ] <;> rfl) ⟨hG, (fun h => f0.out h), (fun h => f1.out h), (fun h => f2.out h), (fun h => f3.out h), (fun h => f4.out h), (fun h => f5.out h), (fun h => f6.out h), (fun h => f7.out h), (fun h => f8.out h), (fun h => f9.out h), (fun h => f10.out h), (fun h => f11.out h), (fun h => f12.out h), (fun h => f13.out h), (fun h => f14.out h), (fun _ => rfl), (fun h => f16.out h), (fun h => f17.out h), (fun h => f18.out h), (fun h => f19.out h), (fun h => f20.out h), (fun h => f21.out h), (fun h => f22.out h), (fun h => f23.out h), (fun h => f24.out h), (fun h => f25.out h)⟩
        · intro L vs W hlen hL hD hI K hK
          obtain ⟨x0, x1, x2, x3, x4, x5, x6, x7, x8, x9, x10, x11, x12, x13, x14, x15, x16, x17, x18, x19, x20, x21, x22, x23, x24, x25, rfl⟩ := len26 hlen
          have hG := hI.1
          replace hI := hI.2
          have f0 := hide hI.1
          replace hI := hI.2
          have f1 := hide hI.1
          replace hI := hI.2
          have f2 := hide hI.1
          replace hI := hI.2
          have f3 := hide hI.1
          replace hI := hI.2
          have f4 := hide hI.1
          replace hI := hI.2
          have f5 := hide hI.1
          replace hI := hI.2
          have f6 := hide hI.1
          replace hI := hI.2
          have f7 := hide hI.1
          replace hI := hI.2
          have f8 := hide hI.1
          replace hI := hI.2
          have f9 := hide hI.1
          replace hI := hI.2
          have f10 := hide hI.1
          replace hI := hI.2
          have f11 := hide hI.1
          replace hI := hI.2
          have f12 := hide hI.1
          replace hI := hI.2
          have f13 := hide hI.1
          replace hI := hI.2
          have f14 := hide hI.1
          replace hI := hI.2
          have f15 := hide hI.1
          replace hI := hI.2
          have f16 := hide hI.1
          replace hI := hI.2
          have f17 := hide hI.1
          replace hI := hI.2
          have f18 := hide hI.1
          replace hI := hI.2
          have f19 := hide hI.1
          replace hI := hI.2
          have f20 := hide hI.1
          replace hI := hI.2
          have f21 := hide hI.1
          replace hI := hI.2
          have f22 := hide hI.1
          replace hI := hI.2
          have f23 := hide hI.1
          replace hI := hI.2
          have f24 := hide hI.1
          replace hI := hI.2
          have f25 := hide hI
          clear hI
          have c0 := keep hG c0
          have c1 := keep hG c1
          have p0 := keep hG p0
          have p1 := keep hG p1
          have p2 := keep hG p2
          have p3 := keep hG p3
          have q0 := keep hG q0
          have q1 := keep hG q1
          have q2 := keep hG q2
          have q3 := keep hG q3
          have o0 := keep hG o0
          have o1 := keep hG o1
          have o2 := keep hG o2
          have o3 := keep hG o3
          have o4 := keep hG o4
          obtain rfl := f10.out (hD.on 10 (by kernel_rfl))
          obtain rfl := f15.out (hD.on 15 (by kernel_rfl))
          try simp only [puts, Act.put, List.setIfInBounds_toArray, List.set_cons_zero, List.set_cons_succ]
          try go_simp
          exact hK.out _ _ _ (by simp only [puts, Act.put, List.setIfInBounds_toArray, List.set_cons_zero, List.set_cons_succ] <;> rfl) ⟨hG, (fun h => f0.out h), (fun h => f1.out h), (fun h => f2.out h), (fun h => f3.out h), (fun h => f4.out h), (fun h => f5.out h), (fun h => f6.out h), (fun h => f7.out h), (fun h => f8.out h), (fun h => f9.out h), (fun h => f10.out h), (fun h => f11.out h), (fun h => f12.out h), (fun h => f13.out h), (fun h => f14.out h), (fun h => f15.out h), (fun _ => rfl), (fun h => f17.out h), (fun h => f18.out h), (fun h => f19.out h), (fun h => f20.out h), (fun h => f21.out h), (fun h => f22.out h), (fun h => f23.out h), (fun h => f24.out h), (fun h => f25.out h)⟩
        · intro L vs W hlen hL hD hI K hK
          obtain ⟨x0, x1, x2, x3, x4, x5, x6, x7, x8, x9, x10, x11, x12, x13, x14, x15, x16, x17, x18, x19, x20, x21, x22, x23, x24, x25, rfl⟩ := len26 hlen
          have hG := hI.1
          replace hI := hI.2
          have f0 := hide hI.1
          replace hI := hI.2
          have f1 := hide hI.1
          replace hI := hI.2
          have f2 := hide hI.1
          replace hI := hI.2
          have f3 := hide hI.1
          replace hI := hI.2
          have f4 := hide hI.1
          replace hI := hI.2
          have f5 := hide hI.1
          replace hI := hI.2
          have f6 := hide hI.1
          replace hI := hI.2
          have f7 := hide hI.1
          replace hI := hI.2
          have f8 := hide hI.1
          replace hI := hI.2
          have f9 := hide hI.1
          replace hI := hI.2
          have f10 := hide hI.1
          replace hI := hI.2
          have f11 := hide hI.1
          replace hI := hI.2
          have f12 := hide hI.1
          replace hI := hI.2
          have f13 := hide hI.1
          replace hI := hI.2
          have f14 := hide hI.1
          replace hI := hI.2
          have f15 := hide hI.1
          replace hI := hI.2
          have f16 := hide hI.1
          replace hI := hI.2
          have f17 := hide hI.1
          replace hI := hI.2
          have f18 := hide hI.1
          replace hI := hI.2
          have f19 := hide hI.1
          replace hI := hI.2
          have f20 := hide hI.1
          replace hI := hI.2
          have f21 := hide hI.1
          replace hI := hI.2
          have f22 := hide hI.1
          replace hI := hI.2
          have f23 := hide hI.1
          replace hI := hI.2
          have f24 := hide hI.1
          replace hI := hI.2
          have f25 := hide hI
          clear hI
          have c0 := keep hG c0
          have c1 := keep hG c1
          have p0 := keep hG p0
          have p1 := keep hG p1
          have p2 := keep hG p2
          have p3 := keep hG p3
          have q0 := keep hG q0
          have q1 := keep hG q1
          have q2 := keep hG q2
          have q3 := keep hG q3
          have o0 := keep hG o0
          have o1 := keep hG o1
          have o2 := keep hG o2
          have o3 := keep hG o3
          have o4 := keep hG o4
          obtain rfl := f16.out (hD.on 16 (by kernel_rfl))
          try simp only [puts, Act.put, List.setIfInBounds_toArray, List.set_cons_zero, List.set_cons_succ]
          try go_simp
          exact hK.out _ _ _ (by simp only [puts, Act.put, List.setIfInBounds_toArray, List.set_cons_zero, List.set_cons_succ] <;> rfl) ⟨hG, (fun h => f0.out h), (fun h => f1.out h), (fun h => f2.out h), (fun h => f3.out h), (fun h => f4.out h), (fun h => f5.out h), (fun h => f6.out h), (fun h => f7.out h), (fun h => f8.out h), (fun h => f9.out h), (fun h => f10.out h), (fun h => f11.out h), (fun h => f12.out h), (fun h => f13.out h), (fun h => f14.out h), (fun h => f15.out h), (fun h => f16.out h), (fun _ => rfl), (fun h => f18.out h), (fun h => f19.out h), (fun h => f20.out h), (fun h => f21.out h), (fun h => f22.out h), (fun h => f23.out h), (fun h => f24.out h), (fun h => f25.out h)⟩
        · intro L vs W hlen hL hD hI K hK
          obtain ⟨x0, x1, x2, x3, x4, x5, x6, x7, x8, x9, x10, x11, x12, x13, x14, x15, x16, x17, x18, x19, x20, x21, x22, x23, x24, x25, rfl⟩ := len26 hlen
          have hG := hI.1
          replace hI := hI.2
          have f0 := hide hI.1
          replace hI := hI.2
          have f1 := hide hI.1
          replace hI := hI.2
          have f2 := hide hI.1
          replace hI := hI.2
          have f3 := hide hI.1
          replace hI := hI.2
          have f4 := hide hI.1
          replace hI := hI.2
          have f5 := hide hI.1
          replace hI := hI.2
          have f6 := hide hI.1
          replace hI := hI.2
          have f7 := hide hI.1
          replace hI := hI.2
          have f8 := hide hI.1
          replace hI := hI.2
          have f9 := hide hI.1
          replace hI := hI.2
          have f10 := hide hI.1
          replace hI := hI.2
          have f11 := hide hI.1
          replace hI := hI.2
          have f12 := hide hI.1
          replace hI := hI.2
          have f13 := hide hI.1
          replace hI := hI.2
          have f14 := hide hI.1
          replace hI := hI.2
          have f15 := hide hI.1
          replace hI := hI.2
          have f16 := hide hI.1
          replace hI := hI.2
          have f17 := hide hI.1
          replace hI := hI.2
          have f18 := hide hI.1
          replace hI := hI.2
          have f19 := hide hI.1
          replace hI := hI.2
          have f20 := hide hI.1
          replace hI := hI.2
          have f21 := hide hI.1
          replace hI := hI.2
          have f22 := hide hI.1
          replace hI := hI.2
          have f23 := hide hI.1
          replace hI := hI.2
          have f24 := hide hI.1
          replace hI := hI.2
          have f25 := hide hI
          clear hI
          have c0 := keep hG c0
          have c1 := keep hG c1
          have p0 := keep hG p0
          have p1 := keep hG p1
          have p2 := keep hG p2
          have p3 := keep hG p3
          have q0 := keep hG q0
          have q1 := keep hG q1
          have q2 := keep hG q2
          have q3 := keep hG q3
          have o0 := keep hG o0
          have o1 := keep hG o1
          have o2 := keep hG o2
          have o3 := keep hG o3
          have o4 := keep hG o4
          obtain rfl := f1.out (hD.on 1 (by kernel_rfl))
          obtain rfl := f9.out (hD.on 9 (by kernel_rfl))
          obtain rfl := f17.out (hD.on 17 (by kernel_rfl))
          try simp only [puts, Act.put, List.setIfInBounds_toArray, List.set_cons_zero, List.set_cons_succ]
          try go_simp
          refine (HSk.out _).mono ?_
          rintro e W' ⟨rfl, hb⟩
          try go_simp
          exact hK.out _ _ _ (by simp only [puts, Act.put, List.setIfInBounds_toArray, List.set_cons_zero, List.set_cons_succ] <;> rfl) ⟨below2 hG hb, (fun h => f0.out h), (fun h => f1.out h), (fun h => f2.out h), (fun h => f3.out h), (fun h => f4.out h), (fun h => f5.out h), (fun h => f6.out h), (fun h => f7.out h), (fun h => f8.out h), (fun h => f9.out h), (fun h => f10.out h), (fun h => f11.out h), (fun h => f12.out h), (fun h => f13.out h), (fun h => f14.out h), (fun h => f15.out h), (fun h => f16.out h), (fun h => f17.out h), (fun _ => rfl), (fun h => f19.out h), (fun h => f20.out h), (fun h => f21.out h), (fun h => f22.out h), (fun h => (fun h => fun h3 => let ⟨b0, a1, a2, a3⟩ := h h3; ⟨b0, a1, a2, a3.later hb⟩) (f23.out h)), (fun h => (fun h => ⟨h.1, let ⟨b0, a1, a2, a3⟩ := h.2; ⟨b0, a1, a2, a3.later hb⟩⟩) (f24.out h)), (fun h => f25.out h)⟩
        · intro L vs W hlen hL hD hI K hK
          obtain ⟨x0, x1, x2, x3, x4, x5, x6, x7, x8, x9, x10, x11, x12, x13, x14, x15, x16, x17, x18, x19, x20, x21, x22, x23, x24, x25, rfl⟩ := len26 hlen
          have hG := hI.1
          replace hI := hI.2
          have f0 := hide hI.1
          replace hI := hI.2
          have f1 := hide hI.1
          replace hI := hI.2
          have f2 := hide hI.1
          replace hI := hI.2
          have f3 := hide hI.1
          replace hI := hI.2
          have f4 := hide hI.1
          replace hI := hI.2
          have f5 := hide hI.1
          replace hI := hI.2
          have f6 := hide hI.1
          replace hI := hI.2
          have f7 := hide hI.1
          replace hI := hI.2
          have f8 := hide hI.1
          replace hI := hI.2
          have f9 := hide hI.1
          replace hI := hI.2
          have f10 := hide hI.1
          replace hI := hI.2
          have f11 := hide hI.1
          replace hI := hI.2
          have f12 := hide hI.1
          replace hI := hI.2
          have f13 := hide hI.1
          replace hI := hI.2
          have f14 := hide hI.1
          replace hI := hI.2
          have f15 := hide hI.1
          replace hI := hI.2
          have f16 := hide hI.1
          replace hI := hI.2
          have f17 := hide hI.1
          replace hI := hI.2
          have f18 := hide hI.1
          replace hI := hI.2
          have f19 := hide hI.1
          replace hI := hI.2
          have f20 := hide hI.1
          replace hI := hI.2
          have f21 := hide hI.1
          replace hI := hI.2
          have f22 := hide hI.1
          replace hI := hI.2
          have f23 := hide hI.1
          replace hI := hI.2
          have f24 := hide hI.1
          replace hI := hI.2
          have f25 := hide hI
          clear hI
          have c0 := keep hG c0
          have c1 := keep hG c1
          have p0 := keep hG p0
          have p1 := keep hG p1
          have p2 := keep hG p2
          have p3 := keep hG p3
          have q0 := keep hG q0
          have q1 := keep hG q1
          have q2 := keep hG q2
          have q3 := keep hG q3
          have o0 := keep hG o0
          have o1 := keep hG o1
          have o2 := keep hG o2
          have o3 := keep hG o3
          have o4 := keep hG o4
          obtain rfl := f0.out (hD.on 0 (by kernel_rfl))
          obtain rfl := f18.out (hD.on 18 (by kernel_rfl))
          try simp only [puts, Act.put, List.setIfInBounds_toArray, List.set_cons_zero, List.set_cons_succ]
          try go_simp
          refine (HMk.out _).mono ?_
          rintro e W' ⟨rfl, hb⟩
          try go_simp
          exact hK.out _ _ _ (by simp only [puts, Act.put, List.setIfInBounds_toArray, List.set_cons_zero, List.set_cons_succ] <;> rfl) ⟨below2 hG hb, (fun h => f0.out h), (fun h => f1.out h), (fun h => f2.out h), (fun h => f3.out h), (fun h => f4.out h), (fun h => f5.out h), (fun h => f6.out h), (fun h => f7.out h), (fun h => f8.out h), (fun h => f9.out h), (fun h => f10.out h), (fun h => f11.out h), (fun h => f12.out h), (fun h => f13.out h), (fun h => f14.out h), (fun h => f15.out h), (fun h => f16.out h), (fun h => f17.out h), (fun h => f18.out h), (fun _ => rfl), (fun h => f20.out h), (fun h => f21.out h), (fun h => f22.out h), (fun h => (fun h => fun h3 => let ⟨b0, a1, a2, a3⟩ := h h3; ⟨b0, a1, a2, a3.later hb⟩) (f23.out h)), (fun h => (fun h => ⟨h.1, let ⟨b0, a1, a2, a3⟩ := h.2; ⟨b0, a1, a2, a3.later hb⟩⟩) (f24.out h)), (fun h => f25.out h)⟩
        · intro L vs W hlen hL hD hI K hK
          obtain ⟨x0, x1, x2, x3, x4, x5, x6, x7, x8, x9, x10, x11, x12, x13, x14, x15, x16, x17, x18, x19, x20, x21, x22, x23, x24, x25, rfl⟩ := len26 hlen
          have hG := hI.1
          replace hI := hI.2
          have f0 := hide hI.1
          replace hI := hI.2
          have f1 := hide hI.1
          replace hI := hI.2
          have f2 := hide hI.1
          replace hI := hI.2
          have f3 := hide hI.1
          replace hI := hI.2
          have f4 := hide hI.1
          replace hI := hI.2
          have f5 := hide hI.1
          replace hI := hI.2
          have f6 := hide hI.1
          replace hI := hI.2
          have f7 := hide hI.1
          replace hI := hI.2
          have f8 := hide hI.1
          replace hI := hI.2
          have f9 := hide hI.1
          replace hI := hI.2
          have f10 := hide hI.1
          replace hI := hI.2
          have f11 := hide hI.1
          replace hI := hI.2
          have f12 := hide hI.1
          replace hI := hI.2
          have f13 := hide hI.1
          replace hI := hI.2
          have f14 := hide hI.1
          replace hI := hI.2
          have f15 := hide hI.1
          replace hI := hI.2
          have f16 := hide hI.1
          replace hI := hI.2
          have f17 := hide hI.1
          replace hI := hI.2
          have f18 := hide hI.1
          replace hI := hI.2
          have f19 := hide hI.1
          replace hI := hI.2
          have f20 := hide hI.1
          replace hI := hI.2
          have f21 := hide hI.1
          replace hI := hI.2
          have f22 := hide hI.1
          replace hI := hI.2
          have f23 := hide hI.1
          replace hI := hI.2
          have f24 := hide hI.1
          replace hI := hI.2
          have f25 := hide hI
          clear hI
          have c0 := keep hG c0
          have c1 := keep hG c1
          have p0 := keep hG p0
          have p1 := keep hG p1
          have p2 := keep hG p2
          have p3 := keep hG p3
          have q0 := keep hG q0
          have q1 := keep hG q1
          have q2 := keep hG q2
          have q3 := keep hG q3
          have o0 := keep hG o0
          have o1 := keep hG o1
          have o2 := keep hG o2
          have o3 := keep hG o3
          have o4 := keep hG o4
          obtain rfl := f19.out (hD.on 19 (by kernel_rfl))
          try simp only [puts, Act.put, List.setIfInBounds_toArray, List.set_cons_zero, List.set_cons_succ]
          try go_simp
          exact hK.out _ _ _ (by simp only [puts, Act.put, List.setIfInBounds_toArray, List.set_cons_zero, List.set_cons_succ] <;> rfl) ⟨hG, (fun h => f0.out h), (fun h => f1.out h), (fun h => f2.out h), (fun h => f3.out h), (fun h => f4.out h), (fun h => f5.out h), (fun h => f6.out h), (fun h => f7.out h), (fun h => f8.out h), (fun h => f9.out h), (fun h => f10.out h), (fun h => f11.out h), (fun h => f12.out h), (fun h => f13.out h), (fun h => f14.out h), (fun h => f15.out h), (fun h => f16.out h), (fun h => f17.out h), (fun h => f18.out h), (fun h => f19.out h), (fun _ => rfl), (fun h => f21.out h), (fun h => f22.out h), (fun h => f23.out h), (fun h => f24.out h), (fun h => f25.out h)⟩
        · intro L vs W hlen hL hD hI K hK
          obtain ⟨x0, x1, x2, x3, x4, x5, x6, x7, x8, x9, x10, x11, x12, x13, x14, x15, x16, x17, x18, x19, x20, x21, x22, x23, x24, x25, rfl⟩ := len26 hlen
          have hG := hI.1
          replace hI := hI.2
          have f0 := hide hI.1
          replace hI := hI.2
          have f1 := hide hI.1
          replace hI := hI.2
          have f2 := hide hI.1
          replace hI := hI.2
          have f3 := hide hI.1
          replace hI := hI.2
          have f4 := hide hI.1
          replace hI := hI.2
          have f5 := hide hI.1
          replace hI := hI.2
          have f6 := hide hI.1
          replace hI := hI.2
          have f7 := hide hI.1
          replace hI := hI.2
          have f8 := hide hI.1
          replace hI := hI.2
          have f9 := hide hI.1
          replace hI := hI.2
          have f10 := hide hI.1
          replace hI := hI.2
          have f11 := hide hI.1
          replace hI := hI.2
          have f12 := hide hI.1
          replace hI := hI.2
          have f13 := hide hI.1
          replace hI := hI.2
          have f14 := hide hI.1
          replace hI := hI.2
          have f15 := hide hI.1
          replace hI := hI.2
          have f16 := hide hI.1
          replace hI := hI.2
          have f17 := hide hI.1
          replace hI := hI.2
          have f18 := hide hI.1
          replace hI := hI.2
          have f19 := hide hI.1
          replace hI := hI.2
          have f20 := hide hI.1
          replace hI := hI.2
          have f21 := hide hI.1
          replace hI := hI.2
          have f22 := hide hI.1
          replace hI := hI.2
          have f23 := hide hI.1
          replace hI := hI.2
          have f24 := hide hI.1
          replace hI := hI.2
          have f25 := hide hI
          clear hI
          have c0 := keep hG c0
          have c1 := keep hG c1
          have p0 := keep hG p0
          have p1 := keep hG p1
          have p2 := keep hG p2
          have p3 := keep hG p3
          have q0 := keep hG q0
          have q1 := keep hG q1
          have q2 := keep hG q2
          have q3 := keep hG q3
          have o0 := keep hG o0
          have o1 := keep hG o1
          have o2 := keep hG o2
          have o3 := keep hG o3
          have o4 := keep hG o4
          obtain rfl := f20.out (hD.on 20 (by kernel_rfl))
          try simp only [puts, Act.put, List.setIfInBounds_toArray, List.set_cons_zero, List.set_cons_succ]
          try go_simp
          exact hK.out _ _ _ (by simp only [puts, Act.put, List.setIfInBounds_toArray, List.set_cons_zero, List.set_cons_succ] <;> rfl) ⟨hG, (fun h => f0.out h), (fun h => f1.out h), (fun h => f2.out h), (fun h => f3.out h), (fun h => f4.out h), (fun h => f5.out h), (fun h => f6.out h), (fun h => f7.out h), (fun h => f8.out h), (fun h => f9.out h), (fun h => f10.out h), (fun h => f11.out h), (fun h => f12.out h), (fun h => f13.out h), (fun h => f14.out h), (fun h => f15.out h), (fun h => f16.out h), (fun h => f17.out h), (fun h => f18.out h), (fun h => f19.out h), (fun h => f20.out h), (fun _ => rfl), (fun h => f22.out h), (fun h => f23.out h), (fun h => f24.out h), (fun h => f25.out h)⟩
        · intro L vs W hlen hL hD hI K hK
          obtain ⟨x0, x1, x2, x3, x4, x5, x6, x7, x8, x9, x10, x11, x12, x13, x14, x15, x16, x17, x18, x19, x20, x21, x22, x23, x24, x25, rfl⟩ := len26 hlen
          have hG := hI.1
          replace hI := hI.2
          have f0 := hide hI.1
          replace hI := hI.2
          have f1 := hide hI.1
          replace hI := hI.2
          have f2 := hide hI.1
          replace hI := hI.2
          have f3 := hide hI.1
          replace hI := hI.2
          have f4 := hide hI.1
          replace hI := hI.2
          have f5 := hide hI.1
          replace hI := hI.2
          have f6 := hide hI.1
          replace hI := hI.2
          have f7 := hide hI.1
          replace hI := hI.2
          have f8 := hide hI.1
          replace hI := hI.2
          have f9 := hide hI.1
          replace hI := hI.2
          have f10 := hide hI.1
          replace hI := hI.2
          have f11 := hide hI.1
          replace hI := hI.2
          have f12 := hide hI.1
          replace hI := hI.2
          have f13 := hide hI.1
          replace hI := hI.2
          have f14 := hide hI.1
          replace hI := hI.2
          have f15 := hide hI.1
          replace hI := hI.2
          have f16 := hide hI.1
          replace hI := hI.2
          have f17 := hide hI.1
          replace hI := hI.2
          have f18 := hide hI.1
          replace hI := hI.2
          have f19 := hide hI.1
          replace hI := hI.2
          have f20 := hide hI.1
          replace hI := hI.2
          have f21 := hide hI.1
          replace hI := hI.2
          have f22 := hide hI.1
          replace hI := hI.2
          have f23 := hide hI.1
          replace hI := hI.2
          have f24 := hide hI.1
          replace hI := hI.2
          have f25 := hide hI
          clear hI
          have c0 := keep hG c0
          have c1 := keep hG c1
          have p0 := keep hG p0
          have p1 := keep hG p1
          have p2 := keep hG p2
          have p3 := keep hG p3
          have q0 := keep hG q0
          have q1 := keep hG q1
          have q2 := keep hG q2
          have q3 := keep hG q3
          have o0 := keep hG o0
          have o1 := keep hG o1
          have o2 := keep hG o2
          have o3 := keep hG o3
          have o4 := keep hG o4
          obtain rfl := f20.out (hD.on 20 (by kernel_rfl))
          try simp only [puts, Act.put, List.setIfInBounds_toArray, List.set_cons_zero, List.set_cons_succ]
          try go_simp
          exact hK.out _ _ _ (by simp only [puts, Act.put, List.setIfInBounds_toArray, List.set_cons_zero, List.set_cons_succ] <;> rfl) ⟨hG, (fun h => f0.out h), (fun h => f1.out h), (fun h => f2.out h), (fun h => f3.out h), (fun h => f4.out h), (fun h => f5.out h), (fun h => f6.out h), (fun h => f7.out h), (fun h => f8.out h), (fun h => f9.out h), (fun h => f10.out h), (fun h => f11.out h), (fun h => f12.out h), (fun h => f13.out h), (fun h => f14.out h), (fun h => f15.out h), (fun h => f16.out h), (fun h => f17.out h), (fun h => f18.out h), (fun h => f19.out h), (fun h => f20.out h), (fun h => f21.out h), (fun _ => rfl), (fun h => f23.out h), (fun h => f24.out h), (fun h => f25.out h)⟩
        · intro L vs W hlen hL hD hI K hK
          obtain ⟨x0, x1, x2, x3, x4, x5, x6, x7, x8, x9, x10, x11, x12, x13, x14, x15, x16, x17, x18, x19, x20, x21, x22, x23, x24, x25, rfl⟩ := len26 hlen
          have hG := hI.1
          replace hI := hI.2
          have f0 := hide hI.1
          replace hI := hI.2
          have f1 := hide hI.1
          replace hI := hI.2
          have f2 := hide hI.1
          replace hI := hI.2
          have f3 := hide hI.1
          replace hI := hI.2
          have f4 := hide hI.1
          replace hI := hI.2
          have f5 := hide hI.1
          replace hI := hI.2
          have f6 := hide hI.1
          replace hI := hI.2
          have f7 := hide hI.1
          replace hI := hI.2
          have f8 := hide hI.1
          replace hI := hI.2
          have f9 := hide hI.1
          replace hI := hI.2
          have f10 := hide hI.1
          replace hI := hI.2
          have f11 := hide hI.1
          replace hI := hI.2
          have f12 := hide hI.1
          replace hI := hI.2
          have f13 := hide hI.1
          replace hI := hI.2
          have f14 := hide hI.1
          replace hI := hI.2
          have f15 := hide hI.1
          replace hI := hI.2
          have f16 := hide hI.1
          replace hI := hI.2
          have f17 := hide hI.1
          replace hI := hI.2
          have f18 := hide hI.1
          replace hI := hI.2
          have f19 := hide hI.1
          replace hI := hI.2
          have f20 := hide hI.1
          replace hI := hI.2
          have f21 := hide hI.1
          replace hI := hI.2
          have f22 := hide hI.1
          replace hI := hI.2
          have f23 := hide hI.1
          replace hI := hI.2
          have f24 := hide hI.1
          replace hI := hI.2
          have f25 := hide hI
          clear hI
          have c0 := keep hG c0
          have c1 := keep hG c1
          have p0 := keep hG p0
          have p1 := keep hG p1
          have p2 := keep hG p2
          have p3 := keep hG p3
          have q0 := keep hG q0
          have q1 := keep hG q1
          have q2 := keep hG q2
          have q3 := keep hG q3
          have o0 := keep hG o0
          have o1 := keep hG o1
          have o2 := keep hG o2
          have o3 := keep hG o3
          have o4 := keep hG o4
          try simp only [puts, Act.put, List.setIfInBounds_toArray, List.set_cons_zero, List.set_cons_succ]
          try go_simp
          generalize hW' : World.alloc W _ = W'
          have hb : Below W.heap.size W W' := by rw [← hW']; exact bal W _
          exact hK.out _ _ _ (by simp only [puts, Act.put, List.setIfInBounds_toArray, List.set_cons_zero, List.set_cons_succ] <;> rfl) ⟨below2 hG hb, (fun h => f0.out h), (fun h => f1.out h), (fun h => f2.out h), (fun h => f3.out h), (fun h => f4.out h), (fun h => f5.out h), (fun h => f6.out h), (fun h => f7.out h), (fun h => f8.out h), (fun h => f9.out h), (fun h => f10.out h), (fun h => f11.out h), (fun h => f12.out h), (fun h => f13.out h), (fun h => f14.out h), (fun h => f15.out h), (fun h => f16.out h), (fun h => f17.out h), (fun h => f18.out h), (fun h => f19.out h), (fun h => f20.out h), (fun h => f21.out h), (fun h => f22.out h), (fun _ => fun _ => ⟨W.heap.size, hG.size, rfl, by rw [← hW']; exact Blk.newA W _ rfl⟩), (fun h => (fun h => absurd (h.1.symm.trans hL) (by decide)) (f24.out h)), (fun h => f25.out h)⟩
        · intro L vs W hlen hL hD hI K hK
          obtain ⟨x0, x1, x2, x3, x4, x5, x6, x7, x8, x9, x10, x11, x12, x13, x14, x15, x16, x17, x18, x19, x20, x21, x22, x23, x24, x25, rfl⟩ := len26 hlen
          have hG := hI.1
          replace hI := hI.2
          have f0 := hide hI.1
          replace hI := hI.2
          have f1 := hide hI.1
          replace hI := hI.2
          have f2 := hide hI.1
          replace hI := hI.2
          have f3 := hide hI.1
          replace hI := hI.2
          have f4 := hide hI.1
          replace hI := hI.2
          have f5 := hide hI.1
          replace hI := hI.2
          have f6 := hide hI.1
          replace hI := hI.2
          have f7 := hide hI.1
          replace hI := hI.2
          have f8 := hide hI.1
          replace hI := hI.2
          have f9 := hide hI.1
          replace hI := hI.2
          have f10 := hide hI.1
          replace hI := hI.2
          have f11 := hide hI.1
          replace hI := hI.2
          have f12 := hide hI.1
          replace hI := hI.2
          have f13 := hide hI.1
          replace hI := hI.2
          have f14 := hide hI.1
          replace hI := hI.2
          have f15 := hide hI.1
          replace hI := hI.2
          have f16 := hide hI.1
          replace hI := hI.2
          have f17 := hide hI.1
          replace hI := hI.2
          have f18 := hide hI.1
          replace hI := hI.2
          have f19 := hide hI.1
          replace hI := hI.2
          have f20 := hide hI.1
          replace hI := hI.2
          have f21 := hide hI.1
          replace hI := hI.2
          have f22 := hide hI.1
          replace hI := hI.2
          have f23 := hide hI.1
          replace hI := hI.2
          have f24 := hide hI.1
          replace hI := hI.2
          have f25 := hide hI
          clear hI
          have c0 := keep hG c0
          have c1 := keep hG c1
          have p0 := keep hG p0
          have p1 := keep hG p1
          have p2 := keep hG p2
          have p3 := keep hG p3
          have q0 := keep hG q0
          have q1 := keep hG q1
          have q2 := keep hG q2
          have q3 := keep hG q3
          have o0 := keep hG o0
          have o1 := keep hG o1
          have o2 := keep hG o2
          have o3 := keep hG o3
          have o4 := keep hG o4
          obtain rfl := f21.out (hD.on 21 (by kernel_rfl))
          have g23 := f23.out (hD.on 23 (by kernel_rfl))
          try simp only [puts, Act.put, List.setIfInBounds_toArray, List.set_cons_zero, List.set_cons_succ]
          obtain ⟨b0, hb0, rfl, hB0⟩ := g23 hL
          have z0 := hB0.frozen 0
          have z1 := hB0.frozen 1
          have z2 := hB0.frozen 2
          have z3 := hB0.frozen 3
          have z4 := hB0.frozen 4
          have y0 := hB0.cell 0 rfl
          have y1 := hB0.cell 1 rfl
          have y2 := hB0.cell 2 rfl
          have y3 := hB0.cell 3 rfl
          have y4 := hB0.cell 4 rfl
          go_simp
          have hS := set5 hB0 (iV k) (iV m1) (iV m2) (iV m3) (iV m4)
          have hb := Below.refl W.heap.size W
          exact hK.out _ undef _ (by simp only [puts, Act.put, List.setIfInBounds_toArray, List.set_cons_zero, List.set_cons_succ] <;> rfl) ⟨hS.2 _ _ hG hb0, (fun h => f0.out h), (fun h => f1.out h), (fun h => f2.out h), (fun h => f3.out h), (fun h => f4.out h), (fun h => f5.out h), (fun h => f6.out h), (fun h => f7.out h), (fun h => f8.out h), (fun h => f9.out h), (fun h => f10.out h), (fun h => f11.out h), (fun h => f12.out h), (fun h => f13.out h), (fun h => f14.out h), (fun h => f15.out h), (fun h => f16.out h), (fun h => f17.out h), (fun h => f18.out h), (fun h => f19.out h), (fun h => f20.out h), (fun h => f21.out h), (fun h => f22.out h), (fun h => (fun _ h => absurd h (by simp)) (f23.out h)), (fun _ => ⟨hD.on 23 (by kernel_rfl), b0, hb0, rfl, hS.1⟩), (fun h => f25.out h)⟩
        · intro L vs W hlen hL hD hI K hK
          obtain ⟨x0, x1, x2, x3, x4, x5, x6, x7, x8, x9, x10, x11, x12, x13, x14, x15, x16, x17, x18, x19, x20, x21, x22, x23, x24, x25, rfl⟩ := len26 hlen
          have hG := hI.1
          replace hI := hI.2
          have f0 := hide hI.1
          replace hI := hI.2
          have f1 := hide hI.1
          replace hI := hI.2
          have f2 := hide hI.1
          replace hI := hI.2
          have f3 := hide hI.1
          replace hI := hI.2
          have f4 := hide hI.1
          replace hI := hI.2
          have f5 := hide hI.1
          replace hI := hI.2
          have f6 := hide hI.1
          replace hI := hI.2
          have f7 := hide hI.1
          replace hI := hI.2
          have f8 := hide hI.1
          replace hI := hI.2
          have f9 := hide hI.1
          replace hI := hI.2
          have f10 := hide hI.1
          replace hI := hI.2
          have f11 := hide hI.1
          replace hI := hI.2
          have f12 := hide hI.1
          replace hI := hI.2
          have f13 := hide hI.1
          replace hI := hI.2
          have f14 := hide hI.1
          replace hI := hI.2
          have f15 := hide hI.1
          replace hI := hI.2
          have f16 := hide hI.1
          replace hI := hI.2
          have f17 := hide hI.1
          replace hI := hI.2
          have f18 := hide hI.1
          replace hI := hI.2
          have f19 := hide hI.1
          replace hI := hI.2
          have f20 := hide hI.1
          replace hI := hI.2
          have f21 := hide hI.1
          replace hI := hI.2
          have f22 := hide hI.1
          replace hI := hI.2
          have f23 := hide hI.1
          replace hI := hI.2
          have f24 := hide hI.1
          replace hI := hI.2
          have f25 := hide hI
          clear hI
          have c0 := keep hG c0
          have c1 := keep hG c1
          have p0 := keep hG p0
          have p1 := keep hG p1
          have p2 := keep hG p2
          have p3 := keep hG p3
          have q0 := keep hG q0
          have q1 := keep hG q1
          have q2 := keep hG q2
          have q3 := keep hG q3
          have o0 := keep hG o0
          have o1 := keep hG o1
          have o2 := keep hG o2
          have o3 := keep hG o3
          have o4 := keep hG o4
          obtain rfl := f22.out (hD.on 22 (by kernel_rfl))
          try simp only [puts, Act.put, List.setIfInBounds_toArray, List.set_cons_zero, List.set_cons_succ]
          try go_simp
          exact hK.out _ _ _ (by simp only [puts, Act.put, List.setIfInBounds_toArray, List.set_cons_zero, List.set_cons_succ] <;> rfl) ⟨hG, (fun h => f0.out h), (fun h => f1.out h), (fun h => f2.out h), (fun h => f3.out h), (fun h => f4.out h), (fun h => f5.out h), (fun h => f6.out h), (fun h => f7.out h), (fun h => f8.out h), (fun h => f9.out h), (fun h => f10.out h), (fun h => f11.out h), (fun h => f12.out h), (fun h => f13.out h), (fun h => f14.out h), (fun h => f15.out h), (fun h => f16.out h), (fun h => f17.out h), (fun h => f18.out h), (fun h => f19.out h), (fun h => f20.out h), (fun h => f21.out h), (fun h => f22.out h), (fun h => f23.out h), (fun h => f24.out h), (fun _ => rfl)⟩
      intro L vs W hlen hall hI
      obtain ⟨x0, x1, x2, x3, x4, x5, x6, x7, x8, x9, x10, x11, x12, x13, x14, x15, x16, x17, x18, x19, x20, x21, x22, x23, x24, x25, rfl⟩ := len26 hlen
      have hG := hI.1
      replace hI := hI.2
      have f0 := hide hI.1
      replace hI := hI.2
      have f1 := hide hI.1
      replace hI := hI.2
      have f2 := hide hI.1
      replace hI := hI.2
      have f3 := hide hI.1
      replace hI := hI.2
      have f4 := hide hI.1
      replace hI := hI.2
      have f5 := hide hI.1
      replace hI := hI.2
      have f6 := hide hI.1
      replace hI := hI.2
      have f7 := hide hI.1
      replace hI := hI.2
      have f8 := hide hI.1
      replace hI := hI.2
      have f9 := hide hI.1
      replace hI := hI.2
      have f10 := hide hI.1
      replace hI := hI.2
      have f11 := hide hI.1
      replace hI := hI.2
      have f12 := hide hI.1
      replace hI := hI.2
      have f13 := hide hI.1
      replace hI := hI.2
      have f14 := hide hI.1
      replace hI := hI.2
      have f15 := hide hI.1
      replace hI := hI.2
      have f16 := hide hI.1
      replace hI := hI.2
      have f17 := hide hI.1
      replace hI := hI.2
      have f18 := hide hI.1
      replace hI := hI.2
      have f19 := hide hI.1
      replace hI := hI.2
      have f20 := hide hI.1
      replace hI := hI.2
      have f21 := hide hI.1
      replace hI := hI.2
      have f22 := hide hI.1
      replace hI := hI.2
      have f23 := hide hI.1
      replace hI := hI.2
      have f24 := hide hI.1
      replace hI := hI.2
      have f25 := hide hI
      clear hI
      obtain rfl := f0.out (hall 0 (by decide))
      obtain rfl := f1.out (hall 1 (by decide))
      obtain rfl := f2.out (hall 2 (by decide))
      obtain rfl := f3.out (hall 3 (by decide))
      obtain rfl := f4.out (hall 4 (by decide))
      obtain rfl := f5.out (hall 5 (by decide))
      obtain rfl := f6.out (hall 6 (by decide))
      obtain rfl := f7.out (hall 7 (by decide))
      obtain rfl := f8.out (hall 8 (by decide))
      obtain rfl := f9.out (hall 9 (by decide))
      obtain rfl := f10.out (hall 10 (by decide))
      obtain rfl := f11.out (hall 11 (by decide))
      obtain rfl := f12.out (hall 12 (by decide))
      obtain rfl := f13.out (hall 13 (by decide))
      obtain rfl := f14.out (hall 14 (by decide))
      obtain rfl := f15.out (hall 15 (by decide))
      obtain rfl := f16.out (hall 16 (by decide))
      obtain rfl := f17.out (hall 17 (by decide))
      obtain rfl := f18.out (hall 18 (by decide))
      obtain rfl := f19.out (hall 19 (by decide))
      obtain rfl := f20.out (hall 20 (by decide))
      obtain rfl := f21.out (hall 21 (by decide))
      obtain rfl := f22.out (hall 22 (by decide))
      have g23 := f23.out (hall 23 (by decide))
      have g24 := f24.out (hall 24 (by decide))
      obtain rfl := f25.out (hall 25 (by decide))
      have hal := hide hall
      clear hall f0 f1 f2 f3 f4 f5 f6 f7 f8 f9 f10 f11 f12 f13 f14 f15 f16 f17 f18 f19 f20 f21 f22 f23 f24 f25
      try simp only [puts, Act.put, List.setIfInBounds_toArray, List.set_cons_zero, List.set_cons_succ]
      obtain ⟨-, b0, hb0, rfl, hB0⟩ := g24
      obtain ⟨WZ, hWZ⟩ : ∃ Z, Z = W := ⟨_, rfl⟩
      subst hWZ
      have hGz := hGr.later hG
      clear hal hG hGr c0 c1 p0 p1 p2 p3 q0 q1 q2 q3 o0 o1 o2 o3 o4
      cases ne
      · have hem : emptyB FT = true := HBR.out (n + 1) (by rw [HFk.out]; simpa using HNE.out)
        have HFR := hide (HRN.out hem)
        have HEM := hide hem
        have bRz := hGz.blk bR3 hRO
        have g0 := (bRz).frozen 0
        have g1 := (bRz).frozen 1
        have g2 := (bRz).frozen 2
        have g3 := (bRz).frozen 3
        have g4 := (bRz).frozen 4
        have r0 := (bRz).cell 0 rfl
        have r1 := (bRz).cell 1 rfl
        have r2 := (bRz).cell 2 rfl
        have r3 := (bRz).cell 3 rfl
        have r4 := (bRz).cell 4 rfl
        clear hem
        go_wp2_with fail
        have hS := set5 bRz (iV 0) (iV 0) (iV 0) (iV 0) (iV 0)
        refine bodyPost_ret (results_cell_tmp_row (p := 6) (u := 7) rfl _ _ w.heap.size _ _ _ _ _ rfl hS.1 Tryd.underlying65 rfl (by kernel_rfl) rfl) rfl ?_
        exact ⟨by rw [HFR.out, HEM.out]; rfl, hS.2 _ _ hGz.hb (Nat.le_refl _)⟩
      · have hne : emptyB ⟨m1, m2, m3, m4⟩ = false := by simpa using HNE.out
        have HNM := hide hne
        have hGp := hGz.put5 hwO (iV k) (iV m1) (iV m2) (iV m3) (iV m4)
        have y0 := hB0.cell 0 rfl
        have y1 := hB0.cell 1 rfl
        have y2 := hB0.cell 2 rfl
        have y3 := hB0.cell 3 rfl
        have y4 := hB0.cell 4 rfl
        have g0 := (hGz.box).frozen 0
        have g1 := (hGz.box).frozen 1
        have g2 := (hGz.box).frozen 2
        have g3 := (hGz.box).frozen 3
        have g4 := (hGz.box).frozen 4
        have r0 := (hGz.box).cell 0 rfl
        have r1 := (hGz.box).cell 1 rfl
        have r2 := (hGz.box).cell 2 rfl
        have r3 := (hGz.box).cell 3 rfl
        have r4 := (hGz.box).cell 4 rfl
        clear hne
        go_wp2_with fail
        go_roundw
        case rel => exact ⟨n + 1, by omega, by go_num, hide (by rw [HFk.out]; exact HNM.out), by rw [HFk.out]; exact hGp⟩
        case measure => simp [intOf]; omega
    · obtain rfl : n = ML.length := by omega
      rw [HFE.out] at HE hG
      have HFR := hide (HRY.out HE.out)
      have bRz := hG.blk bR3 hRO
      have y0 := hG.box.cell 0 rfl
      have y1 := hG.box.cell 1 rfl
      have y2 := hG.box.cell 2 rfl
      have y3 := hG.box.cell 3 rfl
      have y4 := hG.box.cell 4 rfl
      have g0 := (bRz).frozen 0
      have g1 := (bRz).frozen 1
      have g2 := (bRz).frozen 2
      have g3 := (bRz).frozen 3
      have g4 := (bRz).frozen 4
      have r0 := (bRz).cell 0 rfl
      have r1 := (bRz).cell 1 rfl
      have r2 := (bRz).cell 2 rfl
      have r3 := (bRz).cell 3 rfl
      have r4 := (bRz).cell 4 rfl
      go_wp2_with fail
      have hS := set5 bRz (iV k) (iV FT.xl) (iV FT.xh) (iV FT.yl) (iV FT.yh)
      refine bodyPost_ret (results_cell_tmp_row (p := 6) (u := 7) rfl _ _ w.heap.size _ _ _ _ _ rfl hS.1 Tryd.underlying65 rfl (by kernel_rfl) rfl) rfl ?_
      exact ⟨by rw [HFR.out, HE.out]; rfl, hS.2 _ _ hG.hb (Nat.le_refl _)⟩
set_option maxRecDepth 20000 in
set_option maxHeartbeats 2000000 in
theorem rfits_any (a b : List DotD) (va vb : Value) (w : World) (ha : DotsAt w va a) (hb : DotsAt w vb b) :
    Calls Tryd.prog 17 #[va, vb] w (RetM2 (fun c v u => FitsIn c v (fitsR a b) ∧ u = iV (errR a b)) w) := by
  have HR : Hid (fitsR a b = if (marksD a b).isEmpty then [] else fitsUp (marksD a b) 4) := hide rfl
  have HE : Hid (errR a b = if (marksD a b).isEmpty then 110 else 0) := hide rfl
  have HCM := hide (fun (W : World) (h : Below w.heap.size w W) => cmp_any a b va vb W (ha.below h) (hb.below h))
  have HFI := hide (fun (k : Nat) (W : World) (h : Below w.heap.size w W) h1 h2 h3 => rfit_any a b va vb k W (ha.below h) (hb.below h) h1 h2 h3)
  have HV := hide (fun h => cmp_valid (a := a) (b := b) h)
  have HCE : Hid (cmpD a b = !(marksD a b).isEmpty) := hide rfl
  generalize fitsR a b = FR at *
  generalize errR a b = ER at *
  obtain ⟨aa, ac, rfl, -, -, -⟩ := ha
  obtain ⟨ba, bc, rfl, -, -, -⟩ := hb
  cases hc : cmpD a b
  · have hem : (marksD a b).isEmpty = true := by rw [HCE.out] at hc; simpa using hc
    rw [hem] at HR HE
    rw [hc] at HCM
    clear HCE HFI
    go_enter Tryd.func17, Tryd.ntmps17
    go_wp2_with fail
    refine (HCM.out _ (Below.refl _ _)).mono ?_
    rintro e w1 ⟨rfl, hb1⟩
    go_wp2_with fail
    go_ret2
    exact ⟨_, _, rfl, ⟨by rw [HR.out]; exact RecIn.nil _, by rw [HE.out]; rfl⟩, hb1⟩
  · have hem : (marksD a b).isEmpty = false := by rw [HCE.out] at hc; simpa using hc
    obtain ⟨hva, hvb⟩ := HV.out hc
    rw [hem] at HR HE
    rw [hc] at HCM
    have HFJ := hide (fun (k : Nat) (W : World) (h : Below w.heap.size w W) h3 => HFI.out k W h hva hvb h3)
    clear HCE HFI hem hva hvb
    generalize marksD a b = l at *
    go_enter Tryd.func17, Tryd.ntmps17
    go_wp2_with fail
    refine (HCM.out _ (Below.refl _ _)).mono ?_
    rintro e w1 ⟨rfl, hb1⟩
    go_wp2_with fail
    go_loopw [6, 7] (fun v i wr => ∃ (k : Nat), k ≤ 4 ∧ i = .int .i64 k ∧ OwnR wr w.heap.size 65 5 v ((fitsUp l k).map fitC) ∧ Below w.heap.size w wr) (fun _ i _ => 4 - (intOf i).toNat)
    case atStart => exact ⟨0, by omega, rfl, OwnR.nil _ _ _ _, hb1⟩
    case round =>
      obtain ⟨k, hk, rfl, hown, hbr⟩ := hrel
      by_cases hlt : k < 4
      · have hk4 : decide ((k : Int) < 4) = true := by simp; omega
        have HS := hide (fitsUp_succ l k)
        have hfl := fitsUp_len l k
        have HFk := hide (HFJ.out k wr hbr (by omega))
        have HRN : Hid (emptyB (fitD l k) = true → fitRB l k = (0, ⟨0, 0, 0, 0⟩)) := hide (fun h => by unfold fitRB; rw [if_pos h])
        have HRY : Hid (emptyB (fitD l k) = false → fitRB l k = (k, fitD l k)) := hide (fun h => by unfold fitRB; rw [h]; rfl)
        have hfl4 : (fitsUp l k).length < 1000000 := by omega
        generalize fitsUp l k = F at *
        cases hem : emptyB (fitD l k)
        · have e1 := HRY.out hem
          rw [hem, if_neg (by decide)] at HS
          rw [hem, e1] at HFk
          generalize fitD l k = f at *
          obtain ⟨fl, fh, gl, gh⟩ := f
          clear hfl e1 hem HRN HRY
          go_wp2_with fail
          refine HFk.out.mono ?_
          rintro e w3 ⟨rfl, hb3⟩
          have hown3 := hown.later' hb3
          have hbr3 := below2 hbr hb3
          have hownX := hown3.later' (bal w3 (.cells #[iV k, iV fl, iV fh, iV gl, iV gh] 65))
          have hbrX := below2 hbr3 (bal w3 (.cells #[iV k, iV fl, iV fh, iV gl, iV gh] 65))
          have hszX := hbrX.size
          go_wp2_with (at_builtin; refine app_recM kindFit infoFit rfl (by decide) Tryd.underlying41 (by decide) rfl _ _ rfl w.heap.size _ _ rfl hownX (k, ⟨fl, fh, gl, gh⟩) _ rfl (by simp) hfl4 hszX ?_; intro g cc w5 hown5 hE5 hz5)
          go_roundw
          case rel => exact ⟨k + 1, by omega, by go_num, by rw [HS.out]; exact hown5, hbrX.trans (hE5.below hszX)⟩
          case measure => simp [intOf]; omega
        · have e1 := HRN.out hem
          rw [hem, if_pos rfl, List.append_nil] at HS
          rw [hem, e1] at HFk
          clear hfl e1 hem HRN HRY
          go_wp2_with fail
          refine HFk.out.mono ?_
          rintro e w3 ⟨rfl, hb3⟩
          go_wp2_with fail
          go_roundw
          case rel => exact ⟨k + 1, by omega, by go_num, by rw [HS.out]; exact (hown.later' hb3).later' (bal w3 _), below2 (below2 hbr hb3) (bal w3 _)⟩
          case measure => simp [intOf]; omega
      · obtain rfl : k = 4 := by omega
        go_wp2_with fail
        go_ret2
        exact ⟨_, _, rfl, ⟨by rw [HR.out]; exact RecIn.of_own hown (fun _ => rfl) (Nat.le_refl _), by rw [HE.out]; rfl⟩, hbr⟩
end Go.Proofs.YtoofkahklboojaaDoor
