/- The walk of StatuteSpare. Conditions: how the arguments lie in memory; that integers are of 64 bits. -/
import Derived.Test.YtdjldidfnddpmaaSxC
import Derived.Test.YtdjldidfnddpmaaSpA
namespace Go.Proofs.Ytdjldidfnddpmaa
open Go.RowKit
set_option maxRecDepth 100000 in
set_option maxHeartbeats 4000000 in
theorem spare_any (x : NumsD) (xc xr xf : Value) (a0 a1 a2 a3 : Int) (w : World) (hx : NumsIn w.cell? xc xr xf x) (h64 : Nums64 x) (ha : i64B a0 ∧ i64B a1 ∧ i64B a2 ∧ i64B a3) :
    Calls Try.prog 6 #[.agg #[xc, xr, xf], .agg #[.int .i64 a0, .int .i64 a1, .int .i64 a2, .int .i64 a3]] w (Ret (.bool true) w) := by
  have HX := hide hx
  have H64 := hide h64
  obtain ⟨A0, A1, A2, A3⟩ := ha
  have HA0 := hide A0
  have HA1 := hide A1
  have HA2 := hide A2
  have HA3 := hide A3
  obtain ⟨⟨xca, xcn, rfl, -, -, -⟩, ⟨xra, xrn, rfl, -, -, -⟩, ⟨xfa, xfn, rfl, -, -, -⟩⟩ := id hx
  clear hx h64 A0 A1 A2 A3
  go_enter Try.func6, Try.ntmps6
  go_wp2_with fail
  generalize hX1 : World.alloc w _ = X1
  have zX1 : X1.heap.size = w.heap.size + 1 := by rw [← hX1]; simp
  have bX1 : Below w.heap.size w X1 := by rw [← hX1]; exact bal w _
  have bN_1 : Blk X1 (w.heap.size) [.slice xca x.clauses.length xcn, .slice xra x.repeals.length xrn, .slice xfa x.facts.length xfn] 25 := by rw [← hX1]; exact Blk.newA w _ (by first | rfl | simp)
  generalize hX2 : World.alloc X1 _ = X2
  have zX2 : X2.heap.size = w.heap.size + 1 + 1 := by rw [← hX2]; simp [zX1]
  have bX2 : Below X1.heap.size X1 X2 := by rw [← hX2]; exact bal X1 _
  have bA : Blk X2 (w.heap.size + 1) [.int .i64 a0, .int .i64 a1, .int .i64 a2, .int .i64 a3] 26 := by rw [← hX2, ← zX1]; exact Blk.newA X1 _ (by first | rfl | simp)
  have bN := bN_1.later bX2
  have Xb := below2 (bX1) bX2
  have Xz := zX2
  clear hX1 zX1 bX1 hX2 zX2 bX2 bN_1
  refine (sane31_any _).mono ?_
  rintro e w1 ⟨rfl, hb1⟩
  replace bN := bN.later hb1
  replace bA := bA.later hb1
  skip
  have hw1 := below2 Xb hb1
  have n0 := bN.cell 0 rfl
  have n1 := bN.cell 1 rfl
  have n2 := bN.cell 2 rfl
  clear hb1 Xb Xz
  go_wp2_with fail
  refine (mader_any x _ _ _ w1 (HX.out.below hw1) H64.out).mono ?_
  rintro e w2 ⟨cv, rv, fv, B, rfl, hB1, hB2, hco, hb2⟩
  have hci : CodeIn w2.cell? cv rv fv (madeC x) := (hco.at (C := 0) (Nat.zero_le _) (Nat.zero_le _)).keeps (keeps_frm _ _)
  replace bA := bA.later hb2
  skip
  have hw2 := below2 hw1 hb2
  obtain ⟨⟨ca, cn, rfl, -, -, -⟩, ⟨ra, rn, rfl, -, -, -⟩, ⟨fa, fn, rfl, -, -, -⟩⟩ := id hci
  clear n0 n1 n2 bN hw1 hb2
  have p0 := fun o => keep (bal w2 o) (bA.cell 0 rfl)
  have p1 := fun o => keep (bal w2 o) (bA.cell 1 rfl)
  have p2 := fun o => keep (bal w2 o) (bA.cell 2 rfl)
  have p3 := fun o => keep (bal w2 o) (bA.cell 3 rfl)
  have HV := hide (madeC_valid x)
  have HLN := hide (made_lens x)
  have HQ := hide (askF_ok a0 a1 a2 a3)
  go_wp2_with fail
  generalize hY1 : World.alloc w2 _ = Y1
  have zY1 : Y1.heap.size = w2.heap.size + 1 := by rw [← hY1]; simp
  have bY1 : Below w2.heap.size w2 Y1 := by rw [← hY1]; exact bal w2 _
  have bC : Blk Y1 (w2.heap.size) [.slice ca (madeC x).clauses.length cn, .slice ra (madeC x).repeals.length rn, .slice fa (madeC x).facts.length fn] 34 := by rw [← hY1]; exact Blk.newA w2 _ (by first | rfl | simp)
  have Yb := bY1
  have Yz := zY1
  clear hY1 zY1 bY1
  replace hci := hci.below Yb
  replace bA := bA.later Yb
  skip
  have hw3 := below2 hw2 Yb
  clear hw2 Yb Yz
  refine (askr_any a0 a1 a2 a3 _ HA0.out HA1.out HA2.out HA3.out).mono ?_
  rintro e w3 ⟨rfl, hb3⟩
  replace hci := hci.below hb3
  replace bC := bC.later hb3
  replace hw3 := below2 hw3 hb3
  skip
  clear p0 p1 p2 p3 hb3
  have c0 := fun o => keep (bal w3 o) (bC.cell 0 rfl)
  have c1 := fun o => keep (bal w3 o) (bC.cell 1 rfl)
  have c2 := fun o => keep (bal w3 o) (bC.cell 2 rfl)
  go_wp2_with fail
  generalize hZ1 : World.alloc w3 _ = Z1
  have zZ1 : Z1.heap.size = w3.heap.size + 1 := by rw [← hZ1]; simp
  have bZ1 : Below w3.heap.size w3 Z1 := by rw [← hZ1]; exact bal w3 _
  have bQ : Blk Z1 (w3.heap.size) (queryC (askF a0 a1 a2 a3)) 37 := by rw [← hZ1]; exact Blk.newA w3 _ (by first | rfl | simp)
  have Zb := bZ1
  have Zz := zZ1
  clear hZ1 zZ1 bZ1
  replace hci := hci.below Zb
  replace bC := bC.later Zb
  replace hw3 := below2 hw3 Zb
  skip
  clear Zb Zz bA c0 c1 c2
  refine (decideS_any (madeC x) (askF a0 a1 a2 a3) _ _ _ _ hci).mono ?_
  rintro e w4 ⟨lv, rfl, hl, hb4⟩
  rw [HV.out, HQ.out] at hl ⊢
  have he0 : errS (madeC x) (askF a0 a1 a2 a3) = 0 := by unfold errS; rw [HV.out, HQ.out]; rfl
  rw [he0]
  simp only [Bool.and_self, Bool.true_and, if_true] at hl ⊢
  replace hci := hci.below hb4
  replace bC := bC.later hb4
  replace bQ := bQ.later hb4
  replace hw3 := below2 hw3 hb4
  skip
  obtain ⟨la, ln, rfl, -⟩ := id hl
  replace hl := hl.at
  clear hb4 he0
  have HSP := hide (decide_spare HV.out HQ.out)
  have HDP := hide (decide_proves HV.out HQ.out)
  have hpl : 0 < (decideP (madeC x) (askF a0 a1 a2 a3)).length ∧ (decideP (madeC x) (askF a0 a1 a2 a3)).length ≤ 20 := by
    have h := HDP.out
    simp only [checkB, Bool.and_eq_true] at h
    have h2 := h.2
    refine ⟨?_, proves_len h2⟩
    simp only [provesB, Bool.and_eq_true, decide_eq_true_eq] at h2
    exact h2.1.1.2
  have HCK := hide (fun l lv W hl (hb : Below w4.heap.size w4 W) => checkS_any (madeC x) (askF a0 a1 a2 a3) _ _ _ lv (answerB (madeC x) (askF a0 a1 a2 a3)) l W (hci.below hb) hl)
  clear HDP HLN
  generalize decideP (madeC x) (askF a0 a1 a2 a3) = P at *
  generalize answerB (madeC x) (askF a0 a1 a2 a3) = a at *
  generalize askF a0 a1 a2 a3 = q at *
  generalize madeC x = c at *
  have HPL := hide hpl
  have hpi : (P.length : Int) ≤ 20 := by omega
  have hp0 : (0 : Int) < P.length := by omega
  have hp0' : ((P.length : Int) == 0) = false := beq_eq_false_iff_ne.2 (by omega)
  have HL := hide hl
  have HBC := hide bC
  have HBQ := hide bQ
  have HW := hide hw3
  clear hl bC bQ hw3 hpl hci hco
  go_wp2_with fail
  go_loopw [10] (fun i wr => ∃ k : Nat, k ≤ P.length ∧ i = .int .i64 k ∧ Below w4.heap.size w4 wr) (fun i _ => P.length - (intOf i).toNat)
  case atStart => exact ⟨0, by omega, rfl, Below.refl _ _⟩
  case round =>
    obtain ⟨k, hk, rfl, hbr⟩ := hrel
    by_cases hlt : k < P.length
    · have HK := hide hlt
      have hlr := HL.out.below hbr
      obtain ⟨b, o, e, -⟩ := hlr.cell hlt
      subst e
      obtain ⟨A, hA⟩ := less_addr ln k b o
      have HT := hide (fun W (hb : Below wr.heap.size wr W) => less_take (hlr.below hb) k)
      have HD := hide (fun W (hb : Below wr.heap.size wr W) => less_drop (hlr.below hb) hlt hA)
      have hln : P.length ≤ ln ∧ ln ≤ 9223372036854775807 := by obtain ⟨a', n', e, h1, h2, -⟩ := id hlr; cases e; exact ⟨h1, h2⟩
      have hltI : (k : Int) < P.length := by omega
      have HE := hide (less_eq P k)
      have HBR := hide hbr
      have ht : (P.take k).length = k := by rw [List.length_take, Nat.min_eq_left (by omega)]
      have hd : (P.drop (k + 1)).length = P.length - (k + 1) := List.length_drop
      have HTD := hide (And.intro ht hd)
      have hkl : k ≤ ln := by omega
      have hkl1 : k + 1 ≤ ln := by omega
      have hkl2 : k + 1 ≤ P.length := by omega
      have ew : IntKind.i64.wrap ((k : Int) + 1) = ((k + 1 : Nat) : Int) := by rw [IntWalk.i64_in _ ⟨by omega, by omega⟩]; omega
      have h0k : 0 ≤ (k : Int) + 1 := by omega
      have h1k : (k : Int) + 1 ≤ (P.length : Int) := by omega
      clear hlr hbr ht hd
      go_wp2_with fail
      go_region_law (first | (refine step_app_recs infoFind rfl (by decide) Try.underlying28 rfl (.tmp 42) (.tmp 46) rfl wr.heap.size _ _ rfl hO5 (some A) (P.length - (k + 1)) (ln - (k + 1)) ((P.drop (k + 1)).map findC) (by rw [List.length_map, HTD.out.2]) (by simp [Act.eval]) (fun r hr => by obtain ⟨x, -, rfl⟩ := List.mem_map.1 hr; rfl) (findC_one _) (fun ad had => by cases had; exact HD.out _ hbw5) (fun h => by cases h) (by simp; omega) (by simp; omega) hB5 ?_; intro v2 w6 hO6 hb6; rw [HE.out] at hO6; obtain ⟨va2, vc2, e6⟩ := own_form hO6; obtain ⟨m6, hm6⟩ : ∃ m, ((P.eraseIdx k).map findC).length = m := ⟨_, rfl⟩; rw [hm6] at e6; subst e6; have HM6 := hide hm6; clear hm6) | (refine step_app_recs infoFind rfl (by decide) Try.underlying28 rfl (.tmp 38) (.tmp 41) rfl wr.heap.size _ [] rfl (lit_recsK wr 63 4 (Nat.le_refl _)) (some ⟨b, o, none⟩) k ln ((P.take k).map findC) (by rw [List.length_map, HTD.out.1]) (by simp [Act.eval]) (fun r hr => by obtain ⟨x, -, rfl⟩ := List.mem_map.1 hr; rfl) (findC_one _) (fun ad had => by cases had; exact HT.out _ (bal wr _).drew) (fun h => by cases h) (by simp; omega) (by simp; omega) (by simp) ?_; intro v1 w5 hO5 hb5; obtain ⟨va1, vc1, e5⟩ := own_form hO5; rw [List.nil_append, List.length_map, HTD.out.1] at e5; subst e5; have hB5 : wr.heap.size ≤ w5.heap.size := (by have := hb5.size; simp at this; omega); have hbw5 : Below wr.heap.size wr w5 := (bal wr _).drew.trans hb5))
      have hbw6 : Below wr.heap.size wr w6 := hbw5.trans hb6
      have hfi : FindsIn w6.cell? _ (P.eraseIdx k) := (OwnFi.inF hO6 (Nat.zero_le _)).at
      have HCC := hide (HCK.out _ _ w6 hfi (below2 HBR.out hbw6))
      rw [HSP.out k HK.out] at HCC
      have HB6 := hide (below2 HBR.out hbw6)
      have c0 := (HBC.out.later HB6.out).cell 0 rfl
      have c1 := (HBC.out.later HB6.out).cell 1 rfl
      have c2 := (HBC.out.later HB6.out).cell 2 rfl
      have q0 := (HBQ.out.later HB6.out).cell 0 rfl
      have q1 := (HBQ.out.later HB6.out).cell 1 rfl
      have q2 := (HBQ.out.later HB6.out).cell 2 rfl
      have q3 := (HBQ.out.later HB6.out).cell 3 rfl
      clear hbw5 hbw6 hfi hO5 hO6 hb5 hb6
      go_wp2_with fail
      refine HCC.out.mono ?_
      rintro e w7 ⟨rfl, hb7⟩
      go_wp2_with fail
      go_roundw
      case rel => exact ⟨k + 1, by have := HK.out; omega, by go_num, below2 HB6.out hb7⟩
      case measure => have := HK.out; simp [intOf]; omega
    · have HB := hide (below2 HW.out hbr)
      go_wp2_with fail
      go_ret
      exact ⟨rfl, HB.out⟩
end Go.Proofs.Ytdjldidfnddpmaa
