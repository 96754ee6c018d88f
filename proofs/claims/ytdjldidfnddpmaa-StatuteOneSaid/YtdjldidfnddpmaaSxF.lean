/- The walk of StatuteOne. Conditions: how the arguments lie in memory; that integers are of 64 bits. -/
import Derived.Test.YtdjldidfnddpmaaSxE
namespace Go.Proofs.Ytdjldidfnddpmaa
open Go.RowKit
set_option maxRecDepth 100000 in
set_option maxHeartbeats 4000000 in
theorem one_any (x : NumsD) (xc xr xf : Value) (a0 a1 a2 a3 h0 h1 m0 m1 t0 t1 : Int) (ol : List FindD) (ov : Value) (w : World) (hx : NumsIn w.cell? xc xr xf x) (h64 : Nums64 x) (ha : i64B a0 ∧ i64B a1 ∧ i64B a2 ∧ i64B a3)
    (hh : i64B h0 ∧ i64B h1) (hm : i64B m0 ∧ i64B m1) (ht : i64B t0 ∧ i64B t1) (ho : FindsIn w.cell? ov ol) :
    Calls Try.prog 3 #[.agg #[xc, xr, xf], .agg #[.int .i64 a0, .int .i64 a1, .int .i64 a2, .int .i64 a3], .agg #[.int .i64 h0, .int .i64 h1], .agg #[.int .i64 m0, .int .i64 m1], .agg #[.int .i64 t0, .int .i64 t1], ov] w (Ret (.bool true) w) := by
  have HO := hide ho
  obtain ⟨oa, on, rfl, ho1, ho2, -⟩ := id ho
  have HH := hide hh
  have HT := hide ht
  have hon : (ol.length : Int) ≤ 9223372036854775807 := by omega
  have hoc : ol.length ≤ on := ho1
  clear ho hh hm ht ho1
  have HX := hide hx
  have H64 := hide h64
  obtain ⟨A0, A1, A2, A3⟩ := ha
  have HA0 := hide A0
  have HA1 := hide A1
  have HA2 := hide A2
  have HA3 := hide A3
  obtain ⟨⟨xca, xcn, rfl, -, -, -⟩, ⟨xra, xrn, rfl, -, -, -⟩, ⟨xfa, xfn, rfl, -, -, -⟩⟩ := id hx
  clear hx h64 A0 A1 A2 A3
  go_enter Try.func3, Try.ntmps3
  go_wp2_with fail
  generalize hX1 : World.alloc w _ = X1
  have zX1 : X1.heap.size = w.heap.size + 1 := by rw [← hX1]; simp
  have bX1 : Below w.heap.size w X1 := by rw [← hX1]; exact bal w _
  have bN_1 : Blk X1 (w.heap.size) [.slice xca x.clauses.length xcn, .slice xra x.repeals.length xrn, .slice xfa x.facts.length xfn] 25 := by rw [← hX1]; exact Blk.newA w _ (by first | rfl | simp)
  generalize hX2 : World.alloc X1 _ = X2
  have zX2 : X2.heap.size = w.heap.size + 1 + 1 := by rw [← hX2]; simp [zX1]
  have bX2 : Below X1.heap.size X1 X2 := by rw [← hX2]; exact bal X1 _
  have bA_2 : Blk X2 (w.heap.size + 1) [.int .i64 a0, .int .i64 a1, .int .i64 a2, .int .i64 a3] 26 := by rw [← hX2, ← zX1]; exact Blk.newA X1 _ (by first | rfl | simp)
  have bN_2 := bN_1.later bX2
  generalize hX3 : World.alloc X2 _ = X3
  have zX3 : X3.heap.size = w.heap.size + 1 + 1 + 1 := by rw [← hX3]; simp [zX2]
  have bX3 : Below X2.heap.size X2 X3 := by rw [← hX3]; exact bal X2 _
  have bH_3 : Blk X3 (w.heap.size + 1 + 1) [.int .i64 h0, .int .i64 h1] 27 := by rw [← hX3, ← zX2]; exact Blk.newA X2 _ (by first | rfl | simp)
  have bN_3 := bN_2.later bX3
  have bA_3 := bA_2.later bX3
  generalize hX4 : World.alloc X3 _ = X4
  have zX4 : X4.heap.size = w.heap.size + 1 + 1 + 1 + 1 := by rw [← hX4]; simp [zX3]
  have bX4 : Below X3.heap.size X3 X4 := by rw [← hX4]; exact bal X3 _
  have bM_4 : Blk X4 (w.heap.size + 1 + 1 + 1) [.int .i64 m0, .int .i64 m1] 27 := by rw [← hX4, ← zX3]; exact Blk.newA X3 _ (by first | rfl | simp)
  have bN_4 := bN_3.later bX4
  have bA_4 := bA_3.later bX4
  have bH_4 := bH_3.later bX4
  generalize hX5 : World.alloc X4 _ = X5
  have zX5 : X5.heap.size = w.heap.size + 1 + 1 + 1 + 1 + 1 := by rw [← hX5]; simp [zX4]
  have bX5 : Below X4.heap.size X4 X5 := by rw [← hX5]; exact bal X4 _
  have bT : Blk X5 (w.heap.size + 1 + 1 + 1 + 1) [.int .i64 t0, .int .i64 t1] 27 := by rw [← hX5, ← zX4]; exact Blk.newA X4 _ (by first | rfl | simp)
  have bN := bN_4.later bX5
  have bA := bA_4.later bX5
  have bH := bH_4.later bX5
  have bM := bM_4.later bX5
  have Xb := below2 (below2 (below2 (below2 (bX1) bX2) bX3) bX4) bX5
  have Xz := zX5
  clear hX1 zX1 bX1 hX2 zX2 bX2 hX3 zX3 bX3 hX4 zX4 bX4 hX5 zX5 bX5 bN_1 bN_2 bN_3 bN_4 bA_2 bA_3 bA_4 bH_3 bH_4 bM_4
  refine (sane31_any _).mono ?_
  rintro e w1 ⟨rfl, hb1⟩
  replace bN := bN.later hb1
  replace bA := bA.later hb1
  replace bH := bH.later hb1
  replace bM := bM.later hb1
  replace bT := bT.later hb1
  have hw1 := below2 Xb hb1
  have n0 := bN.cell 0 rfl
  have n1 := bN.cell 1 rfl
  have n2 := bN.cell 2 rfl
  clear hb1 Xb Xz
  go_wp2_with fail
  refine (mader_any x _ _ _ w1 (HX.out.below hw1) H64.out).mono ?_
  rintro e w2 ⟨cv, rv, fv, B, rfl, hB1, hB2, hco, hb2⟩
  have hci : CodeIn w2.cell? cv rv fv (madeC x) := (hco.at (C := 0) (Nat.zero_le _) (Nat.zero_le _)).keeps (keeps_frm _ _)
  replace bA := bA.later hb2
  replace bH := bH.later hb2
  replace bM := bM.later hb2
  replace bT := bT.later hb2
  have hw2 := below2 hw1 hb2
  obtain ⟨⟨ca, cn, rfl, -, -, -⟩, ⟨ra, rn, rfl, -, -, -⟩, ⟨fa, fn, rfl, -, -, -⟩⟩ := id hci
  clear n0 n1 n2 bN hw1 hb2
  have p0 := fun o => keep (bal w2 o) (bA.cell 0 rfl)
  have p1 := fun o => keep (bal w2 o) (bA.cell 1 rfl)
  have p2 := fun o => keep (bal w2 o) (bA.cell 2 rfl)
  have p3 := fun o => keep (bal w2 o) (bA.cell 3 rfl)
  have HV := hide (madeC_valid x)
  have HLN := hide (made_lens x)
  have HQ := hide (askF_ok a0 a1 a2 a3)
  go_wp2_with fail
  generalize hY1 : World.alloc w2 _ = Y1
  have zY1 : Y1.heap.size = w2.heap.size + 1 := by rw [← hY1]; simp
  have bY1 : Below w2.heap.size w2 Y1 := by rw [← hY1]; exact bal w2 _
  have bC : Blk Y1 (w2.heap.size) [.slice ca (madeC x).clauses.length cn, .slice ra (madeC x).repeals.length rn, .slice fa (madeC x).facts.length fn] 34 := by rw [← hY1]; exact Blk.newA w2 _ (by first | rfl | simp)
  have Yb := bY1
  have Yz := zY1
  clear hY1 zY1 bY1
  replace hci := hci.below Yb
  replace bA := bA.later Yb
  replace bH := bH.later Yb
  replace bM := bM.later Yb
  replace bT := bT.later Yb
  have hw3 := below2 hw2 Yb
  clear hw2 Yb Yz
  refine (askr_any a0 a1 a2 a3 _ HA0.out HA1.out HA2.out HA3.out).mono ?_
  rintro e w3 ⟨rfl, hb3⟩
  replace hci := hci.below hb3
  replace bC := bC.later hb3
  replace hw3 := below2 hw3 hb3
  replace bH := bH.later hb3
  replace bM := bM.later hb3
  replace bT := bT.later hb3
  clear p0 p1 p2 p3 hb3
  have c0 := fun o => keep (bal w3 o) (bC.cell 0 rfl)
  have c1 := fun o => keep (bal w3 o) (bC.cell 1 rfl)
  have c2 := fun o => keep (bal w3 o) (bC.cell 2 rfl)
  go_wp2_with fail
  generalize hZ1 : World.alloc w3 _ = Z1
  have zZ1 : Z1.heap.size = w3.heap.size + 1 := by rw [← hZ1]; simp
  have bZ1 : Below w3.heap.size w3 Z1 := by rw [← hZ1]; exact bal w3 _
  have bQ : Blk Z1 (w3.heap.size) (queryC (askF a0 a1 a2 a3)) 37 := by rw [← hZ1]; exact Blk.newA w3 _ (by first | rfl | simp)
  have Zb := bZ1
  have Zz := zZ1
  clear hZ1 zZ1 bZ1
  replace hci := hci.below Zb
  replace bC := bC.later Zb
  replace hw3 := below2 hw3 Zb
  replace bH := bH.later Zb
  replace bM := bM.later Zb
  replace bT := bT.later Zb
  clear Zb Zz bA c0 c1 c2
  refine (decideS_any (madeC x) (askF a0 a1 a2 a3) _ _ _ _ hci).mono ?_
  rintro e w4 ⟨lv, rfl, hl, hb4⟩
  rw [HV.out, HQ.out] at hl ⊢
  have he0 : errS (madeC x) (askF a0 a1 a2 a3) = 0 := by unfold errS; rw [HV.out, HQ.out]; rfl
  rw [he0]
  simp only [Bool.and_self, Bool.true_and, if_true] at hl ⊢
  replace hci := hci.below hb4
  replace bC := bC.later hb4
  replace bQ := bQ.later hb4
  replace hw3 := below2 hw3 hb4
  replace bH := bH.later hb4
  replace bM := bM.later hb4
  replace bT := bT.later hb4
  obtain ⟨la, ln, rfl, -⟩ := id hl
  replace hl := hl.at
  clear hb4 he0
  have HDP := hide (decide_proves HV.out HQ.out)
  have hpl : (decideP (madeC x) (askF a0 a1 a2 a3)).length ≤ 20 := by
    have h := HDP.out
    simp only [checkB, Bool.and_eq_true] at h
    exact proves_len h.2
  have HON := hide (fun b l (h : checkB (madeC x) (askF a0 a1 a2 a3) b l = true) => check_one h)
  clear HLN HV HQ hco
  generalize decideP (madeC x) (askF a0 a1 a2 a3) = P at *
  generalize answerB (madeC x) (askF a0 a1 a2 a3) = a at *
  generalize askF a0 a1 a2 a3 = q at *
  generalize madeC x = c at *
  have c0 := bC.cell 0 rfl
  have c1 := bC.cell 1 rfl
  have c2 := bC.cell 2 rfl
  have q0 := bQ.cell 0 rfl
  have q1 := bQ.cell 1 rfl
  have q2 := bQ.cell 2 rfl
  have q3 := bQ.cell 3 rfl
  go_wp2_with fail
  refine (checkS_any c q _ _ _ _ a P _ hci hl).mono ?_
  rw [HDP.out]
  rintro e w5 ⟨rfl, hb⟩
  replace hl := hl.below hb
  replace hci := hci.below hb
  replace bC := bC.later hb
  replace bQ := bQ.later hb
  replace hw3 := below2 hw3 hb
  replace bH := bH.later hb
  replace bM := bM.later hb
  replace bT := bT.later hb
  clear hb c0 c1 c2 q0 q1 q2 q3
  have e0 := bH.cell 0 rfl
  have e1 := bM.cell 0 rfl
  have e2 := bT.cell 0 rfl
  go_wp2_with fail
  refine (bent_any P _ h0 m0 t0 _ hl (by omega) HH.out.1 HT.out.1).mono ?_
  rintro e w6 ⟨bv, B1, rfl, hB1, hl1, hb⟩
  replace hB1 := hB1.at
  replace hl := hl.below hb
  replace hci := hci.below hb
  replace bC := bC.later hb
  replace bQ := bQ.later hb
  replace hw3 := below2 hw3 hb
  replace bH := bH.later hb
  replace bM := bM.later hb
  replace bT := bT.later hb
  clear hb e0 e1 e2
  have e0 := bH.cell 1 rfl
  have e1 := bM.cell 1 rfl
  have e2 := bT.cell 1 rfl
  obtain ⟨ba1, bn1, rfl, -⟩ := id hB1
  go_wp2_with fail
  refine (bent_any B1 _ h1 m1 t1 _ hB1 (by omega) HH.out.2 HT.out.2).mono ?_
  rintro e w7 ⟨bv2, B2, rfl, hB2, hl2, hb⟩
  replace hB2 := hB2.at
  replace hB1 := hB1.below hb
  replace hl := hl.below hb
  replace hci := hci.below hb
  replace bC := bC.later hb
  replace bQ := bQ.later hb
  replace hw3 := below2 hw3 hb
  replace bH := bH.later hb
  replace bM := bM.later hb
  replace bT := bT.later hb
  clear hb e0 e1 e2
  obtain ⟨ba2, bn2, rfl, -⟩ := id hB2
  obtain ⟨M8, hM8⟩ : ∃ M8 : Nat, M8 = min ol.length 8 := ⟨_, rfl⟩
  have hmin : min (ol.length : Int) 8 = (M8 : Int) := by omega
  have hmon : M8 ≤ on := by omega
  have hmol : M8 ≤ ol.length := by omega
  have hm8 : M8 ≤ 8 := by omega
  have HM := hide hmol
  have HM8 := hide hm8
  clear hM8
  go_wp2_with fail
  generalize hV1 : World.alloc w7 _ = V1
  have zV1 : V1.heap.size = w7.heap.size + 1 := by rw [← hV1]; simp
  have bV1 : Below w7.heap.size w7 V1 := by rw [← hV1]; exact bal w7 _
  have bL : Blk V1 (w7.heap.size) [.slice la P.length ln, .slice ba1 B1.length bn1, .slice ba2 B2.length bn2, .slice oa M8 on] 28 := by rw [← hV1]; exact Blk.newA w7 _ (by first | rfl | simp)
  have Vb := bV1
  have Vz := zV1
  clear hV1 zV1 bV1
  have hV := below2 hw3 Vb
  have hof : FindsIn V1.cell? (.slice oa M8 on) (ol.take M8) := by
    have h := HO.out.below hV
    have e : (ol.take M8).length = M8 := by rw [List.length_take, Nat.min_eq_left HM.out]
    obtain ⟨a', n', e', h1, h2, h3⟩ := h
    cases e'
    refine ⟨oa, on, by rw [e], by omega, h2, fun i hi => ?_⟩
    rw [e] at hi
    have e2 : (ol.take M8).getD i find0 = ol.getD i find0 := by
      rw [List.getD_eq_getElem?_getD, List.getElem?_take_of_lt hi, ← List.getD_eq_getElem?_getD]
    rw [e2]
    exact h3 i (by omega)
  have HL4 : Hid (∀ k, k < 4 → ∃ a m c l, [Value.slice la P.length ln, .slice ba1 B1.length bn1, .slice ba2 B2.length bn2, .slice oa M8 on][k]? = some (.slice a m c) ∧ FindsIn V1.cell? (.slice a m c) l) := hide fun k hk => by
    match k, hk with
    | 0, _ => exact ⟨_, _, _, _, rfl, hl.below Vb⟩
    | 1, _ => exact ⟨_, _, _, _, rfl, hB1.below Vb⟩
    | 2, _ => exact ⟨_, _, _, _, rfl, hB2.below Vb⟩
    | 3, _ => exact ⟨_, _, _, _, rfl, hof⟩
  have HBL := hide bL
  have HV1 := hide hV
  have HBC := hide (bC.later Vb)
  have HBQ := hide (bQ.later Vb)
  have HCI := hide (hci.below Vb)
  clear bL hV hof bC bQ hci hl hB1 hB2 Vb Vz hw3 bH bM bT hmin hmon hmol hm8
  go_loopw [71] (fun i wr => ∃ k : Nat, k ≤ 4 ∧ i = .int .i64 k ∧ Below V1.heap.size V1 wr) (fun i _ => 4 - (intOf i).toNat)
  case atStart => exact ⟨0, by omega, rfl, Below.refl _ _⟩
  case round =>
    obtain ⟨k, hk, rfl, hbr⟩ := hrel
    by_cases hlt : k < 4
    · have HK := hide hlt
      obtain ⟨za, zm, zc, zl, hz1, hz2⟩ := HL4.out k hlt
      have z0 := (HBL.out.later hbr).cell k hz1
      have hkI : (k : Int) < 4 := by omega
      have c0 := (HBC.out.later hbr).cell 0 rfl
      have c1 := (HBC.out.later hbr).cell 1 rfl
      have c2 := (HBC.out.later hbr).cell 2 rfl
      have q0 := (HBQ.out.later hbr).cell 0 rfl
      have q1 := (HBQ.out.later hbr).cell 1 rfl
      have q2 := (HBQ.out.later hbr).cell 2 rfl
      have q3 := (HBQ.out.later hbr).cell 3 rfl
      have HCK := hide (checkS_any c q _ _ _ _ (!a) zl wr (HCI.out.below hbr) (hz2.below hbr))
      have hno : checkB c q (!a) zl = false := by
        cases h : checkB c q (!a) zl with
        | false => rfl
        | true => have := HON.out _ _ h; cases a <;> cases this
      rw [hno] at HCK
      have HB := hide hbr
      clear hno hz1 hz2 hbr
      go_wp2_with fail
      refine HCK.out.mono ?_
      rintro e w9 ⟨rfl, hb9⟩
      go_wp2_with fail
      go_roundw
      case rel => exact ⟨k + 1, by have := HK.out; omega, by go_num, below2 HB.out hb9⟩
      case measure => have := HK.out; simp [intOf]; omega
    · have HB := hide (below2 HV1.out hbr)
      obtain rfl : k = 4 := by omega
      go_wp2_with fail
      go_ret
      exact ⟨rfl, HB.out⟩
end Go.Proofs.Ytdjldidfnddpmaa
