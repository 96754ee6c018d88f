/- The walk of Chain itself (chapter 15). Conditions: how the order lies in memory. -/
import Derived.Test.YtnidcoinfmcffaaDoorOsT
import Derived.StillTailTactics
namespace Go.Proofs.YtnidcoinfmcffaaDoor
open Go.RowKit
attribute [local go_sem] Oper.semAt_some
theorem chain_no (o : OrderD) (pv : Value) (w : World) (hp : PairsIn w.cell? pv o.pairs) (hv : validO o = false) : Calls Tryd.prog 29 #[orderV o.n pv] w (Ret (.tuple #[.slice none 0 0, .int .i64 150]) w) := by
 obtain ⟨on, ps⟩ := o
 obtain ⟨pa, pm, rfl, -, -, -⟩ := id hp
 have HR := hide (fun W (hb : Below w.heap.size w W) => by
  have h := read_any ⟨on, ps⟩ (.slice pa ps.length pm) W (RecIn.below hb hp)
  rw [hv] at h
  exact h)
 generalize readO ⟨on, ps⟩ = R at *
 clear hp hv
 go_enter Tryd.func29, Tryd.ntmps29
 go_wp2_with fail
 generalize hX1 : World.alloc w _ = X1
 have zX1 : X1.heap.size = w.heap.size + 1 := by rw [← hX1]; simp
 have bX1 : Below w.heap.size w X1 := by rw [← hX1]; exact bal w _
 have bO : Blk X1 (w.heap.size) [.int .i64 on, .slice pa ps.length pm] 25 := by rw [← hX1]; exact Blk.newA w _ (by first | rfl | simp)
 have Xb := bX1
 have Xz := zX1
 clear hX1 zX1 bX1
 have c0 := bO.cell 0 rfl
 have c1 := bO.cell 1 rfl
 refine (HR.out _ Xb).mono ?_
 rintro e w1 ⟨rfl, hb⟩
 have hw := below2 Xb hb
 clear c0 c1 bO hb Xb Xz
 go_wp2_with fail
 go_ret2
 exact ⟨rfl, below2 hw (bal _ _)⟩
set_option maxRecDepth 100000 in
set_option maxHeartbeats 2000000 in
theorem chain_yes (n : Nat) (ps : List (Int × Int)) (pv : Value) (w : World) (hp : PairsIn w.cell? pv ps) (hv : validO ⟨n, ps⟩ = true) : Calls Tryd.prog 29 #[orderV n pv] w (IntsEQ (natsO (chainO n (beforeO ⟨n, ps⟩))) w) := by
 obtain ⟨pa, pm, rfl, -, -, -⟩ := id hp
 have hn8 : n ≤ 8 := by
  have hf : formedO ⟨(n : Int), ps⟩ = true := by unfold validO at hv; rw [Bool.and_eq_true] at hv; exact hv.1
  have := (formed_n hf).1.2
  simp only at this
  omega
 have HPO := hide (show PoO n (beforeO ⟨(n : Int), ps⟩) from before_po hv)
 have HR := hide (fun W (hb : Below w.heap.size w W) => by
  have h := read_any ⟨(n : Int), ps⟩ (.slice pa ps.length pm) W (RecIn.below hb hp)
  rw [hv, show readO ⟨(n : Int), ps⟩ = beforeO ⟨(n : Int), ps⟩ by
   have hf : formedO ⟨(n : Int), ps⟩ = true := by unfold validO at hv; rw [Bool.and_eq_true] at hv; exact hv.1
   unfold readO; rw [if_pos hf]] at h
  exact h)
 generalize beforeO ⟨(n : Int), ps⟩ = R at *
 clear hp hv
 have hmk : (Instr.makeMap 75 none).run Tryd.prog = fun w => .ok (.map (some w.heap.size)) (w.alloc (.map #[] 0)) := by
  funext w; simp [Instr.makeMap, go_sem]
 go_enter Tryd.func29, Tryd.ntmps29
 go_wp2_with fail
 generalize hX1 : World.alloc w _ = X1
 have zX1 : X1.heap.size = w.heap.size + 1 := by rw [← hX1]; simp
 have bX1 : Below w.heap.size w X1 := by rw [← hX1]; exact bal w _
 have bO : Blk X1 (w.heap.size) [.int .i64 n, .slice pa ps.length pm] 25 := by rw [← hX1]; exact Blk.newA w _ (by first | rfl | simp)
 have Xb := bX1
 have Xz := zX1
 clear hX1 zX1 bX1
 have c0 := bO.cell 0 rfl
 have c1 := bO.cell 1 rfl
 refine (HR.out _ Xb).mono ?_
 rintro e w1 ⟨rfl, hb⟩
 have hw := below2 Xb hb
 replace bO := bO.later hb
 clear c0 c1 hb Xb Xz
 go_upto_region 4 with (fail)
 generalize hY1 : World.alloc w1 _ = Y1
 have zY1 : Y1.heap.size = w1.heap.size + 1 := by rw [← hY1]; simp
 have bY1 : Below w1.heap.size w1 Y1 := by rw [← hY1]; exact bal w1 _
 have bT : Blk Y1 (w1.heap.size) (tabC R) 65 := by rw [← hY1]; exact Blk.newA w1 _ (by first | rfl | simp)
 have Yb := bY1
 have Yz := zY1
 clear hY1 zY1 bY1
 replace bO := bO.later Yb
 have hw2 := below2 hw Yb
 have hO1s := hw.size
 clear Yb hw
 have hm0 := OwnMap.made Y1
 have Y1z : Y1.heap.size = w1.heap.size + 1 := by simpa using Yz
 have bO1 := bO.later (bal Y1 (.map #[] 0))
 have bT1 := bT.later (bal Y1 (.map #[] 0))
 rw [Y1z] at hm0
 go_upto_region 8 with (fail)
 generalize hV1 : World.alloc Y1 _ = V1 at *
 have V1z : V1.heap.size = w1.heap.size + 1 + 1 := by rw [← hV1]; simp [Y1z]
 have hb1 : Below Y1.heap.size Y1 V1 := by rw [← hV1]; exact bal Y1 _
 generalize hV2 : World.alloc V1 _ = V2
 have V2z : V2.heap.size = w1.heap.size + 1 + 1 + 1 := by rw [← hV2]; simp [V1z]
 have hb2 : Below V1.heap.size V1 V2 := by rw [← hV2]; exact bal V1 _
 have bM2 : Blk V2 (w1.heap.size + 1 + 1) [.map (some (w1.heap.size + 1))] 75 := by rw [← hV2, ← V1z]; exact Blk.newA V1 _ rfl
 generalize hV3 : World.alloc V2 _ = V3
 have hb3 : Below V2.heap.size V2 V3 := by rw [← hV3]; exact bal V2 _
 have bF3 : Blk V3 (w1.heap.size + 1 + 1 + 1) [fromV w.heap.size w1.heap.size (w1.heap.size + 1 + 1) (w1.heap.size + 1 + 1 + 1)] 76 := by rw [← hV3, ← V2z]; exact Blk.newA V2 _ rfl
 have hw3 := below2 (below2 (below2 hw2 hb1) hb2) hb3
 have hG : ChG n R w.heap.size w.heap.size w1.heap.size (w1.heap.size + 1 + 1) (w1.heap.size + 1 + 1 + 1) (w1.heap.size + 1) (.slice pa ps.length pm) (fun _ => none) 0 V3 :=
  ⟨(bO1.later hb2).later hb3, (bT1.later hb2).later hb3, bM2.later hb3, bF3, (hm0.later hb2).later hb3, Nat.zero_le _, fun _ _ _ h => by cases h⟩
 have o0 := hG.bO.cell 0 rfl
 have HG := hide hG
 have HW := hide hw3
 have HW1s : Hid (w.heap.size ≤ w1.heap.size) := hide (by have := hw2.size; rw [Y1z] at this; have := hO1s; omega)
 clear hV1 hV2 hV3 hG bO bT bO1 bT1 bM2 bF3 hm0 hb1 hb2 hb3 hw2 hw3
 have HC := hide (fun (b : Nat) (hb : b < n) g clk W (hB : w.heap.size ≤ W.heap.size) (hG : ChG n R w.heap.size w.heap.size w1.heap.size (w1.heap.size + 1 + 1) (w1.heap.size + 1 + 1 + 1) (w1.heap.size + 1) (.slice pa ps.length pm) g clk W) => chain1_any HPO.out hn8 w.heap.size w.heap.size w1.heap.size (w1.heap.size + 1 + 1) (w1.heap.size + 1 + 1 + 1) (w1.heap.size + 1) (.slice pa ps.length pm) (succN n R b + 1) b hb (Nat.lt_succ_self _) g clk W hB hG)
 have HBR := hide (fun k => best_range (fromO n R) (fun _ => true) k)
 have HBL := hide (best_len (f := fromO n R) (p := fun _ => true) (m := 9) (fun b => Nat.le_trans (from_len R n n b) (by omega)) (List.range n) [] (by simp))
 have HFN : Hid (bestF (fromO n R) (fun _ => true) (List.range n) [] = chainO n R) := hide rfl
 have HB0 : Hid (bestF (fromO n R) (fun _ => true) (List.range 0) [] = []) := hide rfl
 go_wp2_with fail
 go_loopw [8, 21] (fun rv i wr => ∃ (b : Nat) (g' : Int → Option Value) (clk' : Nat), b ≤ n ∧ i = .int .i64 b ∧ IntsIn (frm w.heap.size wr) rv (natsO (bestF (fromO n R) (fun _ => true) (List.range b) [])) ∧ ChG n R w.heap.size w.heap.size w1.heap.size (w1.heap.size + 1 + 1) (w1.heap.size + 1 + 1 + 1) (w1.heap.size + 1) (.slice pa ps.length pm) g' clk' wr ∧ Below w.heap.size w wr) (fun _ i _ => n - (intOf i).toNat)
 case atStart => exact ⟨0, _, _, by omega, rfl, by rw [HB0.out]; exact IntsIn.nil _, HG.out, HW.out⟩
 case round =>
  obtain ⟨b, g', clk', hb, rfl, hrv, hG', hwr⟩ := hrel
  obtain ⟨ra, rc, rfl, hr1, hr2, hr3⟩ := id hrv
  have hrl : (natsO (bestF (fromO n R) (fun _ => true) (List.range b) [])).length = (bestF (fromO n R) (fun _ => true) (List.range b) []).length := by unfold natsO; rw [List.length_map]
  by_cases hlt : b < n
  ·have hltI : (b : Int) < n := by omega
   have f0 := hG'.bF.cell 0 rfl
   unfold fromV at f0
   have HK := hide hlt
   have HBR1 := hide (HBR.out b)
   have HRV := hide hrv
   have HG1 := hide hG'
   have HW1 := hide hwr
   have hws := hwr.size
   have HC1 := hide (HC.out b hlt g' clk' wr hws hG')
   have HCB := hide (HC.out b hlt)
   have HML : Hid (∀ A C : World, Below w.heap.size w A → A.grownBy C (some (w1.heap.size + 1)) → Below w.heap.size w C) := hide (fun A C h k => h.trans ⟨k.os, k.tape, k.output, k.size, fun i hi => k.block i (by have := h.size; omega) (by intro e; have e := Option.some.inj e; have := HW1s.out; omega)⟩)
   clear hrv hG' hwr hr1 hr2 hr3
   go_wp2_with fail
   refine HC1.out.mono ?_
   rintro e W2 ⟨v2, g2, clk2, rfl, hv2, hG2, hgr2, -⟩
   have HRV2 := hide (ints_grown HG1.out.map hgr2 HRV.out)
   have HV2 := hide hv2
   obtain ⟨va, vc, rfl, -, -, -⟩ := id hv2
   have hfl : (natsO (fromO n R b)).length = (fromO n R b).length := by unfold natsO; rw [List.length_map]
   have HW2 := hide (HML.out _ _ HW1.out hgr2)
   have HG2 := hide hG2
   have HC2 := hide (HCB.out g2 clk2 W2 HW2.out.size hG2)
   have f1 := hG2.bF.cell 0 rfl
   unfold fromV at f1
   clear hv2 hgr2 hG2 HC1 HCB f0
   by_cases hgt : (bestF (fromO n R) (fun _ => true) (List.range b) []).length < (fromO n R b).length
   ·have hgtI : ((bestF (fromO n R) (fun _ => true) (List.range b) []).length : Int) < ((fromO n R b).length : Int) := by omega
    have HN : Hid (bestF (fromO n R) (fun _ => true) (List.range (b + 1)) [] = fromO n R b) := hide (by have h := HBR1.out; rw [Bool.true_and, decide_eq_true hgt, if_pos rfl] at h; exact h)
    clear hgt
    go_wp2_with fail
    refine HC2.out.mono ?_
    rintro e W3 ⟨v3, g3, clk3, rfl, hv3, hG3, hgr3, -⟩
    have HV3 := hide hv3
    have HG3 := hide hG3
    have HW3 := hide (HML.out _ _ HW2.out hgr3)
    clear hv3 hG3 hgr3 HC2
    go_wp2_with fail
    go_roundw
    case rel => exact ⟨b + 1, g3, clk3, by have := HK.out; omega, by go_num, by rw [HN.out]; exact HV3.out, HG3.out, HW3.out⟩
    case measure => have := HK.out; simp [intOf]; omega
   ·have hgtI : ¬ ((bestF (fromO n R) (fun _ => true) (List.range b) []).length : Int) < ((fromO n R b).length : Int) := by omega
    have HN : Hid (bestF (fromO n R) (fun _ => true) (List.range (b + 1)) [] = bestF (fromO n R) (fun _ => true) (List.range b) []) := hide (by have h := HBR1.out; rw [Bool.true_and, decide_eq_false hgt, if_neg (by decide)] at h; exact h)
    clear hgt
    go_wp2_with fail
    go_roundw
    case rel => exact ⟨b + 1, g2, clk2, by have := HK.out; omega, by go_num, by (rw [HN.out]; have h := HRV2.out; rw [hrl] at h; exact h), HG2.out, HW2.out⟩
    case measure => have := HK.out; simp [intOf]; omega
  ·obtain rfl : b = n := by omega
   have hcl := clone_ints _ _ _ hrv.at (by rw [hrl]; have := HBL.out; omega)
   have HCL := hide hcl
   have HW2 := hide hwr
   clear hcl hrv hwr hr1 hr2 hr3
   go_wp2_with fail
   rw [← hrl]
   refine HCL.out.mono ?_
   rintro e w4 ⟨v4, rfl, hO4, hb4⟩
   have HO4 := hide (hO4.intsF HW2.out.size)
   have HW4 := hide (below2 HW2.out hb4)
   clear hO4 hb4
   go_wp2_with fail
   go_ret2
   exact ⟨_, rfl, by rw [← HFN.out]; exact HO4.out, HW4.out⟩
end Go.Proofs.YtnidcoinfmcffaaDoor
