/- The walk of StatuteExceptions. Conditions: how the arguments lie in memory; that integers are of 64 bits. -/
import Derived.Test.YtdjldidfnddpmaaSxD
import Derived.Test.YtdjldidfnddpmaaSxJ
namespace Go.Proofs.Ytdjldidfnddpmaa
open Go.RowKit
theorem made_terms (x : NumsD) : ∀ z ∈ (madeC x).clauses, z.needs.length ≤ 3 ∧ z.bars.length ≤ 3 := fun z hz => by
  obtain ⟨y, -, rfl⟩ := List.mem_map.1 hz
  exact ⟨bitsK_len _ _, bitsK_len _ _⟩
set_option maxRecDepth 100000 in
set_option maxHeartbeats 4000000 in
theorem exceptions_any (x : NumsD) (xc xr xf : Value) (a0 a1 a2 a3 wh nu h0 h1 : Int) (w : World) (hx : NumsIn w.cell? xc xr xf x) (h64 : Nums64 x) (ha : i64B a0 ∧ i64B a1 ∧ i64B a2 ∧ i64B a3)
    (hwh : i64B wh) (hnu : i64B nu) (hh : i64B h0 ∧ i64B h1) :
    Calls Try.prog 7 #[.agg #[xc, xr, xf], .agg #[.int .i64 a0, .int .i64 a1, .int .i64 a2, .int .i64 a3], .int .i64 wh, .int .i64 nu, .agg #[.int .i64 h0, .int .i64 h1]] w (Ret (.bool true) w) := by
  have HH := hide hh
  have HWH := hide hwh
  have HNU := hide hnu
  clear hh hwh hnu
  have HX := hide hx
  have H64 := hide h64
  obtain ⟨A0, A1, A2, A3⟩ := ha
  have HA0 := hide A0
  have HA1 := hide A1
  have HA2 := hide A2
  have HA3 := hide A3
  obtain ⟨⟨xca, xcn, rfl, -, -, -⟩, ⟨xra, xrn, rfl, -, -, -⟩, ⟨xfa, xfn, rfl, -, -, -⟩⟩ := id hx
  clear hx h64 A0 A1 A2 A3
  go_enter Try.func7, Try.ntmps7
  go_wp2_with fail
  generalize hX1 : World.alloc w _ = X1
  have zX1 : X1.heap.size = w.heap.size + 1 := by rw [← hX1]; simp
  have bX1 : Below w.heap.size w X1 := by rw [← hX1]; exact bal w _
  have bN_1 : Blk X1 (w.heap.size) [.slice xca x.clauses.length xcn, .slice xra x.repeals.length xrn, .slice xfa x.facts.length xfn] 25 := by rw [← hX1]; exact Blk.newA w _ (by first | rfl | simp)
  generalize hX2 : World.alloc X1 _ = X2
  have zX2 : X2.heap.size = w.heap.size + 1 + 1 := by rw [← hX2]; simp [zX1]
  have bX2 : Below X1.heap.size X1 X2 := by rw [← hX2]; exact bal X1 _
  have bA_2 : Blk X2 (w.heap.size + 1) [.int .i64 a0, .int .i64 a1, .int .i64 a2, .int .i64 a3] 26 := by rw [← hX2, ← zX1]; exact Blk.newA X1 _ (by first | rfl | simp)
  have bN_2 := bN_1.later bX2
  generalize hX3 : World.alloc X2 _ = X3
  have zX3 : X3.heap.size = w.heap.size + 1 + 1 + 1 := by rw [← hX3]; simp [zX2]
  have bX3 : Below X2.heap.size X2 X3 := by rw [← hX3]; exact bal X2 _
  have bH : Blk X3 (w.heap.size + 1 + 1) [.int .i64 h0, .int .i64 h1] 27 := by rw [← hX3, ← zX2]; exact Blk.newA X2 _ (by first | rfl | simp)
  have bN := bN_2.later bX3
  have bA := bA_2.later bX3
  have Xb := below2 (below2 (bX1) bX2) bX3
  have Xz := zX3
  clear hX1 zX1 bX1 hX2 zX2 bX2 hX3 zX3 bX3 bN_1 bN_2 bA_2
  refine (sane31_any _).mono ?_
  rintro e w1 ⟨rfl, hb1⟩
  replace bN := bN.later hb1
  replace bA := bA.later hb1
  replace bH := bH.later hb1
  have hw1 := below2 Xb hb1
  have n0 := bN.cell 0 rfl
  have n1 := bN.cell 1 rfl
  have n2 := bN.cell 2 rfl
  clear hb1 Xb Xz
  go_wp2_with fail
  refine (mader_any x _ _ _ w1 (HX.out.below hw1) H64.out).mono ?_
  rintro e w2 ⟨cv, rv, fv, B, rfl, hB1, hB2, hco, hb2⟩
  have hci : CodeIn w2.cell? cv rv fv (madeC x) := (hco.at (C := 0) (Nat.zero_le _) (Nat.zero_le _)).keeps (keeps_frm _ _)
  replace bA := bA.later hb2
  replace bH := bH.later hb2
  have hw2 := below2 hw1 hb2
  obtain ⟨⟨ca, cn, rfl, -, -, -⟩, ⟨ra, rn, rfl, -, -, -⟩, ⟨fa, fn, rfl, -, -, -⟩⟩ := id hci
  clear n0 n1 n2 bN hw1 hb2
  have p0 := fun o => keep (bal w2 o) (bA.cell 0 rfl)
  have p1 := fun o => keep (bal w2 o) (bA.cell 1 rfl)
  have p2 := fun o => keep (bal w2 o) (bA.cell 2 rfl)
  have p3 := fun o => keep (bal w2 o) (bA.cell 3 rfl)
  have HV := hide (madeC_valid x)
  have HLN := hide (made_lens x)
  have HQ := hide (askF_ok a0 a1 a2 a3)
  go_wp2_with fail
  generalize hY1 : World.alloc w2 _ = Y1
  have zY1 : Y1.heap.size = w2.heap.size + 1 := by rw [← hY1]; simp
  have bY1 : Below w2.heap.size w2 Y1 := by rw [← hY1]; exact bal w2 _
  have bC : Blk Y1 (w2.heap.size) [.slice ca (madeC x).clauses.length cn, .slice ra (madeC x).repeals.length rn, .slice fa (madeC x).facts.length fn] 34 := by rw [← hY1]; exact Blk.newA w2 _ (by first | rfl | simp)
  have Yb := bY1
  have Yz := zY1
  clear hY1 zY1 bY1
  replace hci := hci.below Yb
  replace bA := bA.later Yb
  replace bH := bH.later Yb
  have hw3 := below2 hw2 Yb
  clear hw2 Yb Yz
  refine (askr_any a0 a1 a2 a3 _ HA0.out HA1.out HA2.out HA3.out).mono ?_
  rintro e w3 ⟨rfl, hb3⟩
  replace hci := hci.below hb3
  replace bC := bC.later hb3
  replace hw3 := below2 hw3 hb3
  replace bH := bH.later hb3
  clear p0 p1 p2 p3 hb3
  have c0 := fun o => keep (bal w3 o) (bC.cell 0 rfl)
  have c1 := fun o => keep (bal w3 o) (bC.cell 1 rfl)
  have c2 := fun o => keep (bal w3 o) (bC.cell 2 rfl)
  go_wp2_with fail
  generalize hZ1 : World.alloc w3 _ = Z1
  have zZ1 : Z1.heap.size = w3.heap.size + 1 := by rw [← hZ1]; simp
  have bZ1 : Below w3.heap.size w3 Z1 := by rw [← hZ1]; exact bal w3 _
  have bQ : Blk Z1 (w3.heap.size) (queryC (askF a0 a1 a2 a3)) 37 := by rw [← hZ1]; exact Blk.newA w3 _ (by first | rfl | simp)
  have Zb := bZ1
  have Zz := zZ1
  clear hZ1 zZ1 bZ1
  replace hci := hci.below Zb
  replace bC := bC.later Zb
  replace hw3 := below2 hw3 Zb
  replace bH := bH.later Zb
  clear Zb Zz bA c0 c1 c2
  refine (decideS_any (madeC x) (askF a0 a1 a2 a3) _ _ _ _ hci).mono ?_
  rintro e w4 ⟨lv, rfl, hl, hb4⟩
  rw [HV.out, HQ.out] at hl ⊢
  have he0 : errS (madeC x) (askF a0 a1 a2 a3) = 0 := by unfold errS; rw [HV.out, HQ.out]; rfl
  rw [he0]
  simp only [Bool.and_self, Bool.true_and, if_true] at hl ⊢
  replace hci := hci.below hb4
  replace bC := bC.later hb4
  replace bQ := bQ.later hb4
  replace hw3 := below2 hw3 hb4
  replace bH := bH.later hb4
  obtain ⟨la, ln, rfl, -⟩ := id hl
  replace hl := hl.at
  clear hb4 he0
  have HLT := hide (late_law x a0 a1 a2 a3 h0 h1)
  have HMR := hide (more_law x a0 a1 a2 a3)
  have hlens := HLN.out
  have HMT := hide (made_terms x)
  clear hco HLN
  generalize hQ : askF a0 a1 a2 a3 = q at *
  have hqd : 0 ≤ q.day ∧ q.day ≤ 1000 := by rw [← hQ]; have := pkF_bd (n := 100) (by decide) a2; simp only [askF]; omega
  clear hQ
  generalize madeC x = c at *
  generalize answerB c q = a at *
  obtain ⟨hl1, hl2, hl3⟩ := hlens
  have hl1' : (c.clauses.length : Int) ≤ 8 := by omega
  have c0 := bC.cell 0 rfl
  have c1 := bC.cell 1 rfl
  have c2 := bC.cell 2 rfl
  have q0 := bQ.cell 0 rfl
  have q1 := bQ.cell 1 rfl
  have q2 := bQ.cell 2 rfl
  have q3 := bQ.cell 3 rfl
  by_cases h00 : c.clauses.length = 0
  · have e0 : (c.clauses.length : Int) = 0 := by omega
    clear HLT HMR
    go_wp2_with fail
    go_ret
    exact ⟨rfl, hw3⟩
  · have hpos : (0 : Int) < c.clauses.length := by omega
    have hne : ((c.clauses.length : Int) == 0) = false := beq_eq_false_iff_ne.2 (by omega)
    go_wp2_with fail
    refine (pickl_any wh c.clauses.length _ HWH.out.1 HWH.out.2 (by omega) (by omega)).mono ?_
    rintro e w5 ⟨rfl, rfl⟩
    have HK : Hid (0 ≤ pkF wh c.clauses.length ∧ pkF wh c.clauses.length < c.clauses.length) := hide (pkF_bd (by omega) wh)
    have HLT1 := hide (fun (k : Nat) (hk : k < c.clauses.length) => HLT.out k hk)
    clear HLT
    go_wp2_with fail
    refine (copyr_any c _ _ _ _ hci (by omega) (by omega) (by omega) (fun z hz => by have := HMT.out z hz; omega)).mono ?_
    rintro e w6 ⟨lc, lr, lf, B, rfl, hB1, hB2, hco, hb6⟩
    have HCI := hide hci
    have hsz5 := hw3.size
    have HLN2 := hide (fun k hk => HMT.out _ (getD_mem c.clauses k (d := clause0) hk))
    have HMT2 := hide HMT.out
    have HB56 := hide hb6
    replace hl := hl.below hb6
    replace hci := hci.below hb6
    replace bC := bC.later hb6
    replace bQ := bQ.later hb6
    replace hw3 := below2 hw3 hb6
    replace bH := bH.later hb6
    have hneH : w.heap.size + 1 + 1 ≠ w6.heap.size := by have := bH.lt; omega
    have hneQ : w3.heap.size ≠ w6.heap.size := by have := bQ.lt; omega
    have hneC : w2.heap.size ≠ w6.heap.size := by have := bC.lt; omega
    obtain ⟨⟨lca, lcn, rfl, -, -, -⟩, ⟨lra, lrn, rfl, -, -, -⟩, ⟨lfa, lfn, rfl, -, -, -⟩⟩ := id (hco.at (C := 0) (Nat.zero_le _) (Nat.zero_le _))
    clear c0 c1 c2 q0 q1 q2 q3
    go_wp2_with fail
    generalize hY1 : World.alloc w6 _ = Y1
    have zY1 : Y1.heap.size = w6.heap.size + 1 := by rw [← hY1]; simp
    have bY1 : Below w6.heap.size w6 Y1 := by rw [← hY1]; exact bal w6 _
    have bL : Blk Y1 (w6.heap.size) [.slice lca c.clauses.length lcn, .slice lra c.repeals.length lrn, .slice lfa c.facts.length lfn] 34 := by rw [← hY1]; exact Blk.newA w6 _ (by first | rfl | simp)
    have Yb := bY1
    have Yz := zY1
    clear hY1 zY1 bY1
    replace hco := hco.later Yb
    replace hl := hl.below Yb
    replace hci := hci.below Yb
    replace bC := bC.later Yb
    replace bQ := bQ.later Yb
    replace hw3 := below2 hw3 Yb
    replace bH := bH.later Yb
    have hsz6 : w6.heap.size < Y1.heap.size := by rw [Yz]; omega
    have HBY := hide (below2 HB56.out Yb)
    have HYB := hide Yb
    clear Yb Yz hb6
    have hKb := HK.out
    generalize pkF wh c.clauses.length = K at *
    obtain ⟨k, rfl⟩ : ∃ k : Nat, K = k := ⟨K.toNat, by omega⟩
    have HKN : Hid (k < c.clauses.length) := hide (by omega)
    have HP0 := hide (fun W => pickl_any h0 100 W HH.out.1.1 HH.out.1.2 (by decide) (by decide))
    have HP1 := hide (fun W => pickl_any h1 50 W HH.out.2.1 HH.out.2.2 (by decide) (by decide))
    obtain ⟨hP00, hP01⟩ := pkF_bd (n := 100) (by decide) h0
    obtain ⟨hP10, hP11⟩ := pkF_bd (n := 50) (by decide) h1
    obtain ⟨hqd0, hqd1⟩ := hqd
    have HLC : Hid (lateC c q k h0 h1 = ⟨c.clauses, c.repeals ++ [⟨k, pkF h0 100, q.day + 1 + pkF h1 50⟩], c.facts⟩) := hide rfl
    have HLT2 := hide (HLT1.out k HKN.out)
    clear HLT1
    generalize lateC c q k h0 h1 = LC at HLC HLT2
    generalize pkF h0 100 = P0 at *
    generalize pkF h1 50 = P1 at *
    have bC1 := bL
    have hOR := hco.re
    have HCO := hide hco
    generalize hLr : c.repeals.map repealC = Lr at hOR
    have HLr := hide hLr
    have hln : Lr.length ≤ 3 := by rw [← hLr, List.length_map]; omega
    have elr : c.repeals.length = Lr.length := by rw [← hLr, List.length_map]
    rw [elr] at hOR bC1
    have HOR := hide hOR
    have HBC1 := hide bC1
    have HBQ := hide bQ
    have HBC := hide bC
    have HW3 := hide hw3
    clear elr hLr hco hci hOR bC1 bL hw3 hKb hl
    have bC1 := HBC1.out
    have hOR := HOR.out
    go_wp2_with fail
    have ww1 : IntKind.i64.wrap (q.day + 1) = q.day + 1 := IntWalk.i64_in _ (by omega)
    have ww2 : IntKind.i64.wrap (q.day + 1 + P1) = q.day + 1 + P1 := IntWalk.i64_in _ (by omega)
    refine wp_region_inv [some 59, some 60, some 61, some 62, some 63, some 64, some 65, some 66, some 67, some 68, some 69, some 70, some 71, some 72, some 73, some 74, some 75, none] (fun L vs W => match vs with | [x0, x1, x2, x3, x4, x5, x6, x7, x8, x9, x10, x11, x12, x13, x14, x15, x16, x17] => (EffY (B) 55 (w6.heap.size) Y1 W ∧ (L 17 = false → Blk W (w6.heap.size) [.slice lca c.clauses.length lcn, .slice lra Lr.length lrn, .slice lfa c.facts.length lfn] 34) ∧ (L 15 = false → OwnR W (B) 55 3 (.slice lra Lr.length lrn) Lr)) ∧ (L 0 = true → x0 = .pointer (some ⟨w6.heap.size, 1, none⟩)) ∧ (L 1 = true → x1 = .slice lra Lr.length lrn) ∧ (L 2 = true → x2 = .int .i64 k) ∧ (L 3 = true → x3 = .pointer (some ⟨w.heap.size + 1 + 1, 0, none⟩)) ∧ (L 4 = true → x4 = .int .i64 h0) ∧ (L 5 = true → x5 = .int .i64 P0) ∧ (L 6 = true → x6 = .pointer (some ⟨w3.heap.size, 2, none⟩)) ∧ (L 7 = true → x7 = .int .i64 q.day) ∧ (L 8 = true → x8 = .int .i64 (q.day + 1)) ∧ (L 9 = true → x9 = .pointer (some ⟨w.heap.size + 1 + 1, 1, none⟩)) ∧ (L 10 = true → x10 = .int .i64 h1) ∧ (L 11 = true → x11 = .int .i64 P1) ∧ (L 12 = true → x12 = .int .i64 (q.day + 1 + P1)) ∧ (L 13 = true → x13 = .agg #[.int .i64 k, .int .i64 P0, .int .i64 (q.day + 1 + P1)]) ∧ (L 14 = true → (L 15 = false → ∃ b0 : Nat, x14 = .slice (some ⟨b0, 0, none⟩) 1 1 ∧ Blk W b0 [.int .i64 k, .int .i64 P0, .int .i64 (q.day + 1 + P1)] 55)) ∧ (L 15 = true → ∃ g1 c1, x15 = .slice (some ⟨g1, 0, none⟩) (Lr.length + 1) c1 ∧ OwnR W (B) 55 3 x15 (Lr ++ [[.int .i64 k, .int .i64 P0, .int .i64 (q.day + 1 + P1)]])) ∧ (L 16 = true → x16 = .pointer (some ⟨w6.heap.size, 1, none⟩)) ∧ (L 17 = true → (L 1 = true ∧ L 15 = true) ∧ ∃ g1 c1, x15 = .slice (some ⟨g1, 0, none⟩) (Lr.length + 1) c1 ∧ Blk W (w6.heap.size) [.slice lca c.clauses.length lcn, x15, .slice lfa c.facts.length lfn] 34) | _ => False) [_, _, _, _, _, _, _, _, _, _, _, _, _, _, _, _, _, undef] (by kernel_rfl) (by kernel_rfl) rfl (by simp only [puts, Act.put, List.setIfInBounds_toArray, List.set_cons_zero, List.set_cons_succ] <;> rfl) ?_ ?_ ?_
    · exact ⟨⟨EffY.of_below (Below.refl _ _).drew, fun _ => bC1.later (Below.refl _ _).drew, fun _ => hOR.later' (Below.refl _ _).drew⟩, (fun h => by cases h), (fun h => by cases h), (fun h => by cases h), (fun h => by cases h), (fun h => by cases h), (fun h => by cases h), (fun h => by cases h), (fun h => by cases h), (fun h => by cases h), (fun h => by cases h), (fun h => by cases h), (fun h => by cases h), (fun h => by cases h), (fun h => by cases h), (fun h => by cases h), (fun h => by cases h), (fun h => by cases h), (fun h => by cases h)⟩
    · refine ⟨?_, ?_, ?_, ?_, ?_, ?_, ?_, ?_, ?_, ?_, ?_, ?_, ?_, ?_, ?_, ?_, ?_, ?_, trivial⟩
      · intro L vs W hlen hL hD hI K hK
        obtain ⟨x0, x1, x2, x3, x4, x5, x6, x7, x8, x9, x10, x11, x12, x13, x14, x15, x16, x17, rfl⟩ := len18 hlen
        have hG := hI.1
        replace hI := hI.2
        have f0 := hide hI.1
        replace hI := hI.2
        have f1 := hide hI.1
        replace hI := hI.2
        have f2 := hide hI.1
        replace hI := hI.2
        have f3 := hide hI.1
        replace hI := hI.2
        have f4 := hide hI.1
        replace hI := hI.2
        have f5 := hide hI.1
        replace hI := hI.2
        have f6 := hide hI.1
        replace hI := hI.2
        have f7 := hide hI.1
        replace hI := hI.2
        have f8 := hide hI.1
        replace hI := hI.2
        have f9 := hide hI.1
        replace hI := hI.2
        have f10 := hide hI.1
        replace hI := hI.2
        have f11 := hide hI.1
        replace hI := hI.2
        have f12 := hide hI.1
        replace hI := hI.2
        have f13 := hide hI.1
        replace hI := hI.2
        have f14 := hide hI.1
        replace hI := hI.2
        have f15 := hide hI.1
        replace hI := hI.2
        have f16 := hide hI.1
        replace hI := hI.2
        have f17 := hide hI
        clear hI
        have r00 := hG.1.size
        try simp only [puts, Act.put, List.setIfInBounds_toArray, List.set_cons_zero, List.set_cons_succ]
        try go_simp
        exact hK.out _ _ _ (by simp only [puts, Act.put, List.setIfInBounds_toArray, List.set_cons_zero, List.set_cons_succ] <;> rfl) ⟨hG, (fun _ => rfl), (fun h => f1.out h), (fun h => f2.out h), (fun h => f3.out h), (fun h => f4.out h), (fun h => f5.out h), (fun h => f6.out h), (fun h => f7.out h), (fun h => f8.out h), (fun h => f9.out h), (fun h => f10.out h), (fun h => f11.out h), (fun h => f12.out h), (fun h => f13.out h), (fun h => f14.out h), (fun h => f15.out h), (fun h => f16.out h), (fun h => f17.out h)⟩
      · intro L vs W hlen hL hD hI K hK
        obtain ⟨x0, x1, x2, x3, x4, x5, x6, x7, x8, x9, x10, x11, x12, x13, x14, x15, x16, x17, rfl⟩ := len18 hlen
        have hG := hI.1
        replace hI := hI.2
        have f0 := hide hI.1
        replace hI := hI.2
        have f1 := hide hI.1
        replace hI := hI.2
        have f2 := hide hI.1
        replace hI := hI.2
        have f3 := hide hI.1
        replace hI := hI.2
        have f4 := hide hI.1
        replace hI := hI.2
        have f5 := hide hI.1
        replace hI := hI.2
        have f6 := hide hI.1
        replace hI := hI.2
        have f7 := hide hI.1
        replace hI := hI.2
        have f8 := hide hI.1
        replace hI := hI.2
        have f9 := hide hI.1
        replace hI := hI.2
        have f10 := hide hI.1
        replace hI := hI.2
        have f11 := hide hI.1
        replace hI := hI.2
        have f12 := hide hI.1
        replace hI := hI.2
        have f13 := hide hI.1
        replace hI := hI.2
        have f14 := hide hI.1
        replace hI := hI.2
        have f15 := hide hI.1
        replace hI := hI.2
        have f16 := hide hI.1
        replace hI := hI.2
        have f17 := hide hI
        clear hI
        have r00 := hG.1.size
        obtain rfl := f0.out (hD.on 0 (by kernel_rfl))
        try simp only [puts, Act.put, List.setIfInBounds_toArray, List.set_cons_zero, List.set_cons_succ]
        have hst : L 17 = false := Bool.eq_false_iff.2 (fun h => absurd ((f17.out h).1.1.symm.trans hL) (by decide))
        have r0 := (hG.2.1 hst).cell 1 rfl
        go_simp
        exact hK.out _ _ _ (by simp only [puts, Act.put, List.setIfInBounds_toArray, List.set_cons_zero, List.set_cons_succ] <;> rfl) ⟨hG, (fun h => f0.out h), (fun _ => rfl), (fun h => f2.out h), (fun h => f3.out h), (fun h => f4.out h), (fun h => f5.out h), (fun h => f6.out h), (fun h => f7.out h), (fun h => f8.out h), (fun h => f9.out h), (fun h => f10.out h), (fun h => f11.out h), (fun h => f12.out h), (fun h => f13.out h), (fun h => f14.out h), (fun h => f15.out h), (fun h => f16.out h), (fun h => (fun h => ⟨⟨rfl, h.1.2⟩, h.2⟩) (f17.out h))⟩
      · intro L vs W hlen hL hD hI K hK
        obtain ⟨x0, x1, x2, x3, x4, x5, x6, x7, x8, x9, x10, x11, x12, x13, x14, x15, x16, x17, rfl⟩ := len18 hlen
        have hG := hI.1
        replace hI := hI.2
        have f0 := hide hI.1
        replace hI := hI.2
        have f1 := hide hI.1
        replace hI := hI.2
        have f2 := hide hI.1
        replace hI := hI.2
        have f3 := hide hI.1
        replace hI := hI.2
        have f4 := hide hI.1
        replace hI := hI.2
        have f5 := hide hI.1
        replace hI := hI.2
        have f6 := hide hI.1
        replace hI := hI.2
        have f7 := hide hI.1
        replace hI := hI.2
        have f8 := hide hI.1
        replace hI := hI.2
        have f9 := hide hI.1
        replace hI := hI.2
        have f10 := hide hI.1
        replace hI := hI.2
        have f11 := hide hI.1
        replace hI := hI.2
        have f12 := hide hI.1
        replace hI := hI.2
        have f13 := hide hI.1
        replace hI := hI.2
        have f14 := hide hI.1
        replace hI := hI.2
        have f15 := hide hI.1
        replace hI := hI.2
        have f16 := hide hI.1
        replace hI := hI.2
        have f17 := hide hI
        clear hI
        have r00 := hG.1.size
        try simp only [puts, Act.put, List.setIfInBounds_toArray, List.set_cons_zero, List.set_cons_succ]
        try go_simp
        exact hK.out _ _ _ (by simp only [puts, Act.put, List.setIfInBounds_toArray, List.set_cons_zero, List.set_cons_succ] <;> rfl) ⟨hG, (fun h => f0.out h), (fun h => f1.out h), (fun _ => rfl), (fun h => f3.out h), (fun h => f4.out h), (fun h => f5.out h), (fun h => f6.out h), (fun h => f7.out h), (fun h => f8.out h), (fun h => f9.out h), (fun h => f10.out h), (fun h => f11.out h), (fun h => f12.out h), (fun h => f13.out h), (fun h => f14.out h), (fun h => f15.out h), (fun h => f16.out h), (fun h => f17.out h)⟩
      · intro L vs W hlen hL hD hI K hK
        obtain ⟨x0, x1, x2, x3, x4, x5, x6, x7, x8, x9, x10, x11, x12, x13, x14, x15, x16, x17, rfl⟩ := len18 hlen
        have hG := hI.1
        replace hI := hI.2
        have f0 := hide hI.1
        replace hI := hI.2
        have f1 := hide hI.1
        replace hI := hI.2
        have f2 := hide hI.1
        replace hI := hI.2
        have f3 := hide hI.1
        replace hI := hI.2
        have f4 := hide hI.1
        replace hI := hI.2
        have f5 := hide hI.1
        replace hI := hI.2
        have f6 := hide hI.1
        replace hI := hI.2
        have f7 := hide hI.1
        replace hI := hI.2
        have f8 := hide hI.1
        replace hI := hI.2
        have f9 := hide hI.1
        replace hI := hI.2
        have f10 := hide hI.1
        replace hI := hI.2
        have f11 := hide hI.1
        replace hI := hI.2
        have f12 := hide hI.1
        replace hI := hI.2
        have f13 := hide hI.1
        replace hI := hI.2
        have f14 := hide hI.1
        replace hI := hI.2
        have f15 := hide hI.1
        replace hI := hI.2
        have f16 := hide hI.1
        replace hI := hI.2
        have f17 := hide hI
        clear hI
        have r00 := hG.1.size
        try simp only [puts, Act.put, List.setIfInBounds_toArray, List.set_cons_zero, List.set_cons_succ]
        try go_simp
        exact hK.out _ _ _ (by simp only [puts, Act.put, List.setIfInBounds_toArray, List.set_cons_zero, List.set_cons_succ] <;> rfl) ⟨hG, (fun h => f0.out h), (fun h => f1.out h), (fun h => f2.out h), (fun _ => rfl), (fun h => f4.out h), (fun h => f5.out h), (fun h => f6.out h), (fun h => f7.out h), (fun h => f8.out h), (fun h => f9.out h), (fun h => f10.out h), (fun h => f11.out h), (fun h => f12.out h), (fun h => f13.out h), (fun h => f14.out h), (fun h => f15.out h), (fun h => f16.out h), (fun h => f17.out h)⟩
      · intro L vs W hlen hL hD hI K hK
        obtain ⟨x0, x1, x2, x3, x4, x5, x6, x7, x8, x9, x10, x11, x12, x13, x14, x15, x16, x17, rfl⟩ := len18 hlen
        have hG := hI.1
        replace hI := hI.2
        have f0 := hide hI.1
        replace hI := hI.2
        have f1 := hide hI.1
        replace hI := hI.2
        have f2 := hide hI.1
        replace hI := hI.2
        have f3 := hide hI.1
        replace hI := hI.2
        have f4 := hide hI.1
        replace hI := hI.2
        have f5 := hide hI.1
        replace hI := hI.2
        have f6 := hide hI.1
        replace hI := hI.2
        have f7 := hide hI.1
        replace hI := hI.2
        have f8 := hide hI.1
        replace hI := hI.2
        have f9 := hide hI.1
        replace hI := hI.2
        have f10 := hide hI.1
        replace hI := hI.2
        have f11 := hide hI.1
        replace hI := hI.2
        have f12 := hide hI.1
        replace hI := hI.2
        have f13 := hide hI.1
        replace hI := hI.2
        have f14 := hide hI.1
        replace hI := hI.2
        have f15 := hide hI.1
        replace hI := hI.2
        have f16 := hide hI.1
        replace hI := hI.2
        have f17 := hide hI
        clear hI
        have r00 := hG.1.size
        obtain rfl := f3.out (hD.on 3 (by kernel_rfl))
        try simp only [puts, Act.put, List.setIfInBounds_toArray, List.set_cons_zero, List.set_cons_succ]
        have r0 := hG.1.cell bH hneH (by decide) 0 rfl
        go_simp
        exact hK.out _ _ _ (by simp only [puts, Act.put, List.setIfInBounds_toArray, List.set_cons_zero, List.set_cons_succ] <;> rfl) ⟨hG, (fun h => f0.out h), (fun h => f1.out h), (fun h => f2.out h), (fun h => f3.out h), (fun _ => rfl), (fun h => f5.out h), (fun h => f6.out h), (fun h => f7.out h), (fun h => f8.out h), (fun h => f9.out h), (fun h => f10.out h), (fun h => f11.out h), (fun h => f12.out h), (fun h => f13.out h), (fun h => f14.out h), (fun h => f15.out h), (fun h => f16.out h), (fun h => f17.out h)⟩
      · intro L vs W hlen hL hD hI K hK
        obtain ⟨x0, x1, x2, x3, x4, x5, x6, x7, x8, x9, x10, x11, x12, x13, x14, x15, x16, x17, rfl⟩ := len18 hlen
        have hG := hI.1
        replace hI := hI.2
        have f0 := hide hI.1
        replace hI := hI.2
        have f1 := hide hI.1
        replace hI := hI.2
        have f2 := hide hI.1
        replace hI := hI.2
        have f3 := hide hI.1
        replace hI := hI.2
        have f4 := hide hI.1
        replace hI := hI.2
        have f5 := hide hI.1
        replace hI := hI.2
        have f6 := hide hI.1
        replace hI := hI.2
        have f7 := hide hI.1
        replace hI := hI.2
        have f8 := hide hI.1
        replace hI := hI.2
        have f9 := hide hI.1
        replace hI := hI.2
        have f10 := hide hI.1
        replace hI := hI.2
        have f11 := hide hI.1
        replace hI := hI.2
        have f12 := hide hI.1
        replace hI := hI.2
        have f13 := hide hI.1
        replace hI := hI.2
        have f14 := hide hI.1
        replace hI := hI.2
        have f15 := hide hI.1
        replace hI := hI.2
        have f16 := hide hI.1
        replace hI := hI.2
        have f17 := hide hI
        clear hI
        have r00 := hG.1.size
        obtain rfl := f4.out (hD.on 4 (by kernel_rfl))
        try simp only [puts, Act.put, List.setIfInBounds_toArray, List.set_cons_zero, List.set_cons_succ]
        try go_simp
        refine (HP0.out _).mono ?_
        rintro e W' ⟨rfl, rfl⟩
        try go_simp
        exact hK.out _ _ _ (by simp only [puts, Act.put, List.setIfInBounds_toArray, List.set_cons_zero, List.set_cons_succ] <;> rfl) ⟨hG, (fun h => f0.out h), (fun h => f1.out h), (fun h => f2.out h), (fun h => f3.out h), (fun h => f4.out h), (fun _ => rfl), (fun h => f6.out h), (fun h => f7.out h), (fun h => f8.out h), (fun h => f9.out h), (fun h => f10.out h), (fun h => f11.out h), (fun h => f12.out h), (fun h => f13.out h), (fun h => f14.out h), (fun h => f15.out h), (fun h => f16.out h), (fun h => f17.out h)⟩
      · intro L vs W hlen hL hD hI K hK
        obtain ⟨x0, x1, x2, x3, x4, x5, x6, x7, x8, x9, x10, x11, x12, x13, x14, x15, x16, x17, rfl⟩ := len18 hlen
        have hG := hI.1
        replace hI := hI.2
        have f0 := hide hI.1
        replace hI := hI.2
        have f1 := hide hI.1
        replace hI := hI.2
        have f2 := hide hI.1
        replace hI := hI.2
        have f3 := hide hI.1
        replace hI := hI.2
        have f4 := hide hI.1
        replace hI := hI.2
        have f5 := hide hI.1
        replace hI := hI.2
        have f6 := hide hI.1
        replace hI := hI.2
        have f7 := hide hI.1
        replace hI := hI.2
        have f8 := hide hI.1
        replace hI := hI.2
        have f9 := hide hI.1
        replace hI := hI.2
        have f10 := hide hI.1
        replace hI := hI.2
        have f11 := hide hI.1
        replace hI := hI.2
        have f12 := hide hI.1
        replace hI := hI.2
        have f13 := hide hI.1
        replace hI := hI.2
        have f14 := hide hI.1
        replace hI := hI.2
        have f15 := hide hI.1
        replace hI := hI.2
        have f16 := hide hI.1
        replace hI := hI.2
        have f17 := hide hI
        clear hI
        have r00 := hG.1.size
        try simp only [puts, Act.put, List.setIfInBounds_toArray, List.set_cons_zero, List.set_cons_succ]
        try go_simp
        exact hK.out _ _ _ (by simp only [puts, Act.put, List.setIfInBounds_toArray, List.set_cons_zero, List.set_cons_succ] <;> rfl) ⟨hG, (fun h => f0.out h), (fun h => f1.out h), (fun h => f2.out h), (fun h => f3.out h), (fun h => f4.out h), (fun h => f5.out h), (fun _ => rfl), (fun h => f7.out h), (fun h => f8.out h), (fun h => f9.out h), (fun h => f10.out h), (fun h => f11.out h), (fun h => f12.out h), (fun h => f13.out h), (fun h => f14.out h), (fun h => f15.out h), (fun h => f16.out h), (fun h => f17.out h)⟩
      · intro L vs W hlen hL hD hI K hK
        obtain ⟨x0, x1, x2, x3, x4, x5, x6, x7, x8, x9, x10, x11, x12, x13, x14, x15, x16, x17, rfl⟩ := len18 hlen
        have hG := hI.1
        replace hI := hI.2
        have f0 := hide hI.1
        replace hI := hI.2
        have f1 := hide hI.1
        replace hI := hI.2
        have f2 := hide hI.1
        replace hI := hI.2
        have f3 := hide hI.1
        replace hI := hI.2
        have f4 := hide hI.1
        replace hI := hI.2
        have f5 := hide hI.1
        replace hI := hI.2
        have f6 := hide hI.1
        replace hI := hI.2
        have f7 := hide hI.1
        replace hI := hI.2
        have f8 := hide hI.1
        replace hI := hI.2
        have f9 := hide hI.1
        replace hI := hI.2
        have f10 := hide hI.1
        replace hI := hI.2
        have f11 := hide hI.1
        replace hI := hI.2
        have f12 := hide hI.1
        replace hI := hI.2
        have f13 := hide hI.1
        replace hI := hI.2
        have f14 := hide hI.1
        replace hI := hI.2
        have f15 := hide hI.1
        replace hI := hI.2
        have f16 := hide hI.1
        replace hI := hI.2
        have f17 := hide hI
        clear hI
        have r00 := hG.1.size
        obtain rfl := f6.out (hD.on 6 (by kernel_rfl))
        try simp only [puts, Act.put, List.setIfInBounds_toArray, List.set_cons_zero, List.set_cons_succ]
        have r0 := hG.1.cell bQ hneQ (by decide) 2 rfl
        go_simp
        exact hK.out _ _ _ (by simp only [puts, Act.put, List.setIfInBounds_toArray, List.set_cons_zero, List.set_cons_succ] <;> rfl) ⟨hG, (fun h => f0.out h), (fun h => f1.out h), (fun h => f2.out h), (fun h => f3.out h), (fun h => f4.out h), (fun h => f5.out h), (fun h => f6.out h), (fun _ => rfl), (fun h => f8.out h), (fun h => f9.out h), (fun h => f10.out h), (fun h => f11.out h), (fun h => f12.out h), (fun h => f13.out h), (fun h => f14.out h), (fun h => f15.out h), (fun h => f16.out h), (fun h => f17.out h)⟩
      · intro L vs W hlen hL hD hI K hK
        obtain ⟨x0, x1, x2, x3, x4, x5, x6, x7, x8, x9, x10, x11, x12, x13, x14, x15, x16, x17, rfl⟩ := len18 hlen
        have hG := hI.1
        replace hI := hI.2
        have f0 := hide hI.1
        replace hI := hI.2
        have f1 := hide hI.1
        replace hI := hI.2
        have f2 := hide hI.1
        replace hI := hI.2
        have f3 := hide hI.1
        replace hI := hI.2
        have f4 := hide hI.1
        replace hI := hI.2
        have f5 := hide hI.1
        replace hI := hI.2
        have f6 := hide hI.1
        replace hI := hI.2
        have f7 := hide hI.1
        replace hI := hI.2
        have f8 := hide hI.1
        replace hI := hI.2
        have f9 := hide hI.1
        replace hI := hI.2
        have f10 := hide hI.1
        replace hI := hI.2
        have f11 := hide hI.1
        replace hI := hI.2
        have f12 := hide hI.1
        replace hI := hI.2
        have f13 := hide hI.1
        replace hI := hI.2
        have f14 := hide hI.1
        replace hI := hI.2
        have f15 := hide hI.1
        replace hI := hI.2
        have f16 := hide hI.1
        replace hI := hI.2
        have f17 := hide hI
        clear hI
        have r00 := hG.1.size
        obtain rfl := f7.out (hD.on 7 (by kernel_rfl))
        try simp only [puts, Act.put, List.setIfInBounds_toArray, List.set_cons_zero, List.set_cons_succ]
        try go_simp
        exact hK.out _ _ _ (by simp only [puts, Act.put, List.setIfInBounds_toArray, List.set_cons_zero, List.set_cons_succ] <;> rfl) ⟨hG, (fun h => f0.out h), (fun h => f1.out h), (fun h => f2.out h), (fun h => f3.out h), (fun h => f4.out h), (fun h => f5.out h), (fun h => f6.out h), (fun h => f7.out h), (fun _ => rfl), (fun h => f9.out h), (fun h => f10.out h), (fun h => f11.out h), (fun h => f12.out h), (fun h => f13.out h), (fun h => f14.out h), (fun h => f15.out h), (fun h => f16.out h), (fun h => f17.out h)⟩
      · intro L vs W hlen hL hD hI K hK
        obtain ⟨x0, x1, x2, x3, x4, x5, x6, x7, x8, x9, x10, x11, x12, x13, x14, x15, x16, x17, rfl⟩ := len18 hlen
        have hG := hI.1
        replace hI := hI.2
        have f0 := hide hI.1
        replace hI := hI.2
        have f1 := hide hI.1
        replace hI := hI.2
        have f2 := hide hI.1
        replace hI := hI.2
        have f3 := hide hI.1
        replace hI := hI.2
        have f4 := hide hI.1
        replace hI := hI.2
        have f5 := hide hI.1
        replace hI := hI.2
        have f6 := hide hI.1
        replace hI := hI.2
        have f7 := hide hI.1
        replace hI := hI.2
        have f8 := hide hI.1
        replace hI := hI.2
        have f9 := hide hI.1
        replace hI := hI.2
        have f10 := hide hI.1
        replace hI := hI.2
        have f11 := hide hI.1
        replace hI := hI.2
        have f12 := hide hI.1
        replace hI := hI.2
        have f13 := hide hI.1
        replace hI := hI.2
        have f14 := hide hI.1
        replace hI := hI.2
        have f15 := hide hI.1
        replace hI := hI.2
        have f16 := hide hI.1
        replace hI := hI.2
        have f17 := hide hI
        clear hI
        have r00 := hG.1.size
        try simp only [puts, Act.put, List.setIfInBounds_toArray, List.set_cons_zero, List.set_cons_succ]
        try go_simp
        exact hK.out _ _ _ (by simp only [puts, Act.put, List.setIfInBounds_toArray, List.set_cons_zero, List.set_cons_succ] <;> rfl) ⟨hG, (fun h => f0.out h), (fun h => f1.out h), (fun h => f2.out h), (fun h => f3.out h), (fun h => f4.out h), (fun h => f5.out h), (fun h => f6.out h), (fun h => f7.out h), (fun h => f8.out h), (fun _ => rfl), (fun h => f10.out h), (fun h => f11.out h), (fun h => f12.out h), (fun h => f13.out h), (fun h => f14.out h), (fun h => f15.out h), (fun h => f16.out h), (fun h => f17.out h)⟩
      · intro L vs W hlen hL hD hI K hK
        obtain ⟨x0, x1, x2, x3, x4, x5, x6, x7, x8, x9, x10, x11, x12, x13, x14, x15, x16, x17, rfl⟩ := len18 hlen
        have hG := hI.1
        replace hI := hI.2
        have f0 := hide hI.1
        replace hI := hI.2
        have f1 := hide hI.1
        replace hI := hI.2
        have f2 := hide hI.1
        replace hI := hI.2
        have f3 := hide hI.1
        replace hI := hI.2
        have f4 := hide hI.1
        replace hI := hI.2
        have f5 := hide hI.1
        replace hI := hI.2
        have f6 := hide hI.1
        replace hI := hI.2
        have f7 := hide hI.1
        replace hI := hI.2
        have f8 := hide hI.1
        replace hI := hI.2
        have f9 := hide hI.1
        replace hI := hI.2
        have f10 := hide hI.1
        replace hI := hI.2
        have f11 := hide hI.1
        replace hI := hI.2
        have f12 := hide hI.1
        replace hI := hI.2
        have f13 := hide hI.1
        replace hI := hI.2
        have f14 := hide hI.1
        replace hI := hI.2
        have f15 := hide hI.1
        replace hI := hI.2
        have f16 := hide hI.1
        replace hI := hI.2
        have f17 := hide hI
        clear hI
        have r00 := hG.1.size
        obtain rfl := f9.out (hD.on 9 (by kernel_rfl))
        try simp only [puts, Act.put, List.setIfInBounds_toArray, List.set_cons_zero, List.set_cons_succ]
        have r0 := hG.1.cell bH hneH (by decide) 1 rfl
        go_simp
        exact hK.out _ _ _ (by simp only [puts, Act.put, List.setIfInBounds_toArray, List.set_cons_zero, List.set_cons_succ] <;> rfl) ⟨hG, (fun h => f0.out h), (fun h => f1.out h), (fun h => f2.out h), (fun h => f3.out h), (fun h => f4.out h), (fun h => f5.out h), (fun h => f6.out h), (fun h => f7.out h), (fun h => f8.out h), (fun h => f9.out h), (fun _ => rfl), (fun h => f11.out h), (fun h => f12.out h), (fun h => f13.out h), (fun h => f14.out h), (fun h => f15.out h), (fun h => f16.out h), (fun h => f17.out h)⟩
      · intro L vs W hlen hL hD hI K hK
        obtain ⟨x0, x1, x2, x3, x4, x5, x6, x7, x8, x9, x10, x11, x12, x13, x14, x15, x16, x17, rfl⟩ := len18 hlen
        have hG := hI.1
        replace hI := hI.2
        have f0 := hide hI.1
        replace hI := hI.2
        have f1 := hide hI.1
        replace hI := hI.2
        have f2 := hide hI.1
        replace hI := hI.2
        have f3 := hide hI.1
        replace hI := hI.2
        have f4 := hide hI.1
        replace hI := hI.2
        have f5 := hide hI.1
        replace hI := hI.2
        have f6 := hide hI.1
        replace hI := hI.2
        have f7 := hide hI.1
        replace hI := hI.2
        have f8 := hide hI.1
        replace hI := hI.2
        have f9 := hide hI.1
        replace hI := hI.2
        have f10 := hide hI.1
        replace hI := hI.2
        have f11 := hide hI.1
        replace hI := hI.2
        have f12 := hide hI.1
        replace hI := hI.2
        have f13 := hide hI.1
        replace hI := hI.2
        have f14 := hide hI.1
        replace hI := hI.2
        have f15 := hide hI.1
        replace hI := hI.2
        have f16 := hide hI.1
        replace hI := hI.2
        have f17 := hide hI
        clear hI
        have r00 := hG.1.size
        obtain rfl := f10.out (hD.on 10 (by kernel_rfl))
        try simp only [puts, Act.put, List.setIfInBounds_toArray, List.set_cons_zero, List.set_cons_succ]
        try go_simp
        refine (HP1.out _).mono ?_
        rintro e W' ⟨rfl, rfl⟩
        try go_simp
        exact hK.out _ _ _ (by simp only [puts, Act.put, List.setIfInBounds_toArray, List.set_cons_zero, List.set_cons_succ] <;> rfl) ⟨hG, (fun h => f0.out h), (fun h => f1.out h), (fun h => f2.out h), (fun h => f3.out h), (fun h => f4.out h), (fun h => f5.out h), (fun h => f6.out h), (fun h => f7.out h), (fun h => f8.out h), (fun h => f9.out h), (fun h => f10.out h), (fun _ => rfl), (fun h => f12.out h), (fun h => f13.out h), (fun h => f14.out h), (fun h => f15.out h), (fun h => f16.out h), (fun h => f17.out h)⟩
      · intro L vs W hlen hL hD hI K hK
        obtain ⟨x0, x1, x2, x3, x4, x5, x6, x7, x8, x9, x10, x11, x12, x13, x14, x15, x16, x17, rfl⟩ := len18 hlen
        have hG := hI.1
        replace hI := hI.2
        have f0 := hide hI.1
        replace hI := hI.2
        have f1 := hide hI.1
        replace hI := hI.2
        have f2 := hide hI.1
        replace hI := hI.2
        have f3 := hide hI.1
        replace hI := hI.2
        have f4 := hide hI.1
        replace hI := hI.2
        have f5 := hide hI.1
        replace hI := hI.2
        have f6 := hide hI.1
        replace hI := hI.2
        have f7 := hide hI.1
        replace hI := hI.2
        have f8 := hide hI.1
        replace hI := hI.2
        have f9 := hide hI.1
        replace hI := hI.2
        have f10 := hide hI.1
        replace hI := hI.2
        have f11 := hide hI.1
        replace hI := hI.2
        have f12 := hide hI.1
        replace hI := hI.2
        have f13 := hide hI.1
        replace hI := hI.2
        have f14 := hide hI.1
        replace hI := hI.2
        have f15 := hide hI.1
        replace hI := hI.2
        have f16 := hide hI.1
        replace hI := hI.2
        have f17 := hide hI
        clear hI
        have r00 := hG.1.size
        obtain rfl := f8.out (hD.on 8 (by kernel_rfl))
        obtain rfl := f11.out (hD.on 11 (by kernel_rfl))
        try simp only [puts, Act.put, List.setIfInBounds_toArray, List.set_cons_zero, List.set_cons_succ]
        try go_simp
        exact hK.out _ _ _ (by simp only [puts, Act.put, List.setIfInBounds_toArray, List.set_cons_zero, List.set_cons_succ] <;> rfl) ⟨hG, (fun h => f0.out h), (fun h => f1.out h), (fun h => f2.out h), (fun h => f3.out h), (fun h => f4.out h), (fun h => f5.out h), (fun h => f6.out h), (fun h => f7.out h), (fun h => f8.out h), (fun h => f9.out h), (fun h => f10.out h), (fun h => f11.out h), (fun _ => rfl), (fun h => f13.out h), (fun h => f14.out h), (fun h => f15.out h), (fun h => f16.out h), (fun h => f17.out h)⟩
      · intro L vs W hlen hL hD hI K hK
        obtain ⟨x0, x1, x2, x3, x4, x5, x6, x7, x8, x9, x10, x11, x12, x13, x14, x15, x16, x17, rfl⟩ := len18 hlen
        have hG := hI.1
        replace hI := hI.2
        have f0 := hide hI.1
        replace hI := hI.2
        have f1 := hide hI.1
        replace hI := hI.2
        have f2 := hide hI.1
        replace hI := hI.2
        have f3 := hide hI.1
        replace hI := hI.2
        have f4 := hide hI.1
        replace hI := hI.2
        have f5 := hide hI.1
        replace hI := hI.2
        have f6 := hide hI.1
        replace hI := hI.2
        have f7 := hide hI.1
        replace hI := hI.2
        have f8 := hide hI.1
        replace hI := hI.2
        have f9 := hide hI.1
        replace hI := hI.2
        have f10 := hide hI.1
        replace hI := hI.2
        have f11 := hide hI.1
        replace hI := hI.2
        have f12 := hide hI.1
        replace hI := hI.2
        have f13 := hide hI.1
        replace hI := hI.2
        have f14 := hide hI.1
        replace hI := hI.2
        have f15 := hide hI.1
        replace hI := hI.2
        have f16 := hide hI.1
        replace hI := hI.2
        have f17 := hide hI
        clear hI
        have r00 := hG.1.size
        obtain rfl := f2.out (hD.on 2 (by kernel_rfl))
        obtain rfl := f5.out (hD.on 5 (by kernel_rfl))
        obtain rfl := f12.out (hD.on 12 (by kernel_rfl))
        try simp only [puts, Act.put, List.setIfInBounds_toArray, List.set_cons_zero, List.set_cons_succ]
        try go_simp
        exact hK.out _ _ _ (by simp only [puts, Act.put, List.setIfInBounds_toArray, List.set_cons_zero, List.set_cons_succ] <;> rfl) ⟨hG, (fun h => f0.out h), (fun h => f1.out h), (fun h => f2.out h), (fun h => f3.out h), (fun h => f4.out h), (fun h => f5.out h), (fun h => f6.out h), (fun h => f7.out h), (fun h => f8.out h), (fun h => f9.out h), (fun h => f10.out h), (fun h => f11.out h), (fun h => f12.out h), (fun _ => rfl), (fun h => f14.out h), (fun h => f15.out h), (fun h => f16.out h), (fun h => f17.out h)⟩
      · intro L vs W hlen hL hD hI K hK
        obtain ⟨x0, x1, x2, x3, x4, x5, x6, x7, x8, x9, x10, x11, x12, x13, x14, x15, x16, x17, rfl⟩ := len18 hlen
        have hG := hI.1
        replace hI := hI.2
        have f0 := hide hI.1
        replace hI := hI.2
        have f1 := hide hI.1
        replace hI := hI.2
        have f2 := hide hI.1
        replace hI := hI.2
        have f3 := hide hI.1
        replace hI := hI.2
        have f4 := hide hI.1
        replace hI := hI.2
        have f5 := hide hI.1
        replace hI := hI.2
        have f6 := hide hI.1
        replace hI := hI.2
        have f7 := hide hI.1
        replace hI := hI.2
        have f8 := hide hI.1
        replace hI := hI.2
        have f9 := hide hI.1
        replace hI := hI.2
        have f10 := hide hI.1
        replace hI := hI.2
        have f11 := hide hI.1
        replace hI := hI.2
        have f12 := hide hI.1
        replace hI := hI.2
        have f13 := hide hI.1
        replace hI := hI.2
        have f14 := hide hI.1
        replace hI := hI.2
        have f15 := hide hI.1
        replace hI := hI.2
        have f16 := hide hI.1
        replace hI := hI.2
        have f17 := hide hI
        clear hI
        have r00 := hG.1.size
        obtain rfl := f13.out (hD.on 13 (by kernel_rfl))
        try simp only [puts, Act.put, List.setIfInBounds_toArray, List.set_cons_zero, List.set_cons_succ]
        go_simp
        generalize hW' : World.alloc W _ = W'
        have hb : Below W.heap.size W W' := by rw [← hW']; exact bal W _
        exact hK.out _ _ _ (by simp only [puts, Act.put, List.setIfInBounds_toArray, List.set_cons_zero, List.set_cons_succ] <;> rfl) ⟨⟨hG.1.then hb, fun h => (hG.2.1 h).later hb, fun h => (hG.2.2 h).later' hb⟩, (fun h => f0.out h), (fun h => f1.out h), (fun h => f2.out h), (fun h => f3.out h), (fun h => f4.out h), (fun h => f5.out h), (fun h => f6.out h), (fun h => f7.out h), (fun h => f8.out h), (fun h => f9.out h), (fun h => f10.out h), (fun h => f11.out h), (fun h => f12.out h), (fun h => f13.out h), (fun _ => fun _ => ⟨W.heap.size, rfl, by rw [← hW']; exact Blk.newA W _ rfl⟩), (fun h => (fun h => let ⟨g1, c1, e, ho⟩ := h; ⟨g1, c1, e, ho.later' hb⟩) (f15.out h)), (fun h => f16.out h), (fun h => (fun h => ⟨h.1, let ⟨g1, c1, e, hk⟩ := h.2; ⟨g1, c1, e, hk.later hb⟩⟩) (f17.out h))⟩
      · intro L vs W hlen hL hD hI K hK
        obtain ⟨x0, x1, x2, x3, x4, x5, x6, x7, x8, x9, x10, x11, x12, x13, x14, x15, x16, x17, rfl⟩ := len18 hlen
        have hG := hI.1
        replace hI := hI.2
        have f0 := hide hI.1
        replace hI := hI.2
        have f1 := hide hI.1
        replace hI := hI.2
        have f2 := hide hI.1
        replace hI := hI.2
        have f3 := hide hI.1
        replace hI := hI.2
        have f4 := hide hI.1
        replace hI := hI.2
        have f5 := hide hI.1
        replace hI := hI.2
        have f6 := hide hI.1
        replace hI := hI.2
        have f7 := hide hI.1
        replace hI := hI.2
        have f8 := hide hI.1
        replace hI := hI.2
        have f9 := hide hI.1
        replace hI := hI.2
        have f10 := hide hI.1
        replace hI := hI.2
        have f11 := hide hI.1
        replace hI := hI.2
        have f12 := hide hI.1
        replace hI := hI.2
        have f13 := hide hI.1
        replace hI := hI.2
        have f14 := hide hI.1
        replace hI := hI.2
        have f15 := hide hI.1
        replace hI := hI.2
        have f16 := hide hI.1
        replace hI := hI.2
        have f17 := hide hI
        clear hI
        have r00 := hG.1.size
        obtain rfl := f1.out (hD.on 1 (by kernel_rfl))
        have g14 := f14.out (hD.on 14 (by kernel_rfl))
        try simp only [puts, Act.put, List.setIfInBounds_toArray, List.set_cons_zero, List.set_cons_succ]
        obtain ⟨b0, rfl, hB0⟩ := g14 hL
        refine step_one infoRepeal rfl (by decide) Try.underlying31 rfl _ _ rfl (B) _ Lr rfl (hG.2.2 hL) b0 _ rfl hB0 rfl (repealC_one (x := ⟨k, P0, q.day + 1 + P1⟩)) (by omega) (by omega) (by omega) ?_
        intro g1 c1 W' hO' hE'
        have hb : True := trivial
        exact hK.out _ _ _ (by simp only [puts, Act.put, List.setIfInBounds_toArray, List.set_cons_zero, List.set_cons_succ] <;> rfl) ⟨⟨hG.1.app hE', fun h => hE'.blk (hG.2.1 h) (by decide), fun h => (by cases h)⟩, (fun h => f0.out h), (fun h => f1.out h), (fun h => f2.out h), (fun h => f3.out h), (fun h => f4.out h), (fun h => f5.out h), (fun h => f6.out h), (fun h => f7.out h), (fun h => f8.out h), (fun h => f9.out h), (fun h => f10.out h), (fun h => f11.out h), (fun h => f12.out h), (fun h => f13.out h), (fun h => (fun h => (fun h21 => by cases h21)) (f14.out h)), (fun _ => ⟨g1, c1, rfl, hO'⟩), (fun h => f16.out h), (fun h => (fun h => absurd (h.1.2.symm.trans hL) (by decide)) (f17.out h))⟩
      · intro L vs W hlen hL hD hI K hK
        obtain ⟨x0, x1, x2, x3, x4, x5, x6, x7, x8, x9, x10, x11, x12, x13, x14, x15, x16, x17, rfl⟩ := len18 hlen
        have hG := hI.1
        replace hI := hI.2
        have f0 := hide hI.1
        replace hI := hI.2
        have f1 := hide hI.1
        replace hI := hI.2
        have f2 := hide hI.1
        replace hI := hI.2
        have f3 := hide hI.1
        replace hI := hI.2
        have f4 := hide hI.1
        replace hI := hI.2
        have f5 := hide hI.1
        replace hI := hI.2
        have f6 := hide hI.1
        replace hI := hI.2
        have f7 := hide hI.1
        replace hI := hI.2
        have f8 := hide hI.1
        replace hI := hI.2
        have f9 := hide hI.1
        replace hI := hI.2
        have f10 := hide hI.1
        replace hI := hI.2
        have f11 := hide hI.1
        replace hI := hI.2
        have f12 := hide hI.1
        replace hI := hI.2
        have f13 := hide hI.1
        replace hI := hI.2
        have f14 := hide hI.1
        replace hI := hI.2
        have f15 := hide hI.1
        replace hI := hI.2
        have f16 := hide hI.1
        replace hI := hI.2
        have f17 := hide hI
        clear hI
        have r00 := hG.1.size
        try simp only [puts, Act.put, List.setIfInBounds_toArray, List.set_cons_zero, List.set_cons_succ]
        try go_simp
        exact hK.out _ _ _ (by simp only [puts, Act.put, List.setIfInBounds_toArray, List.set_cons_zero, List.set_cons_succ] <;> rfl) ⟨hG, (fun h => f0.out h), (fun h => f1.out h), (fun h => f2.out h), (fun h => f3.out h), (fun h => f4.out h), (fun h => f5.out h), (fun h => f6.out h), (fun h => f7.out h), (fun h => f8.out h), (fun h => f9.out h), (fun h => f10.out h), (fun h => f11.out h), (fun h => f12.out h), (fun h => f13.out h), (fun h => f14.out h), (fun h => f15.out h), (fun _ => rfl), (fun h => f17.out h)⟩
      · intro L vs W hlen hL hD hI K hK
        obtain ⟨x0, x1, x2, x3, x4, x5, x6, x7, x8, x9, x10, x11, x12, x13, x14, x15, x16, x17, rfl⟩ := len18 hlen
        have hG := hI.1
        replace hI := hI.2
        have f0 := hide hI.1
        replace hI := hI.2
        have f1 := hide hI.1
        replace hI := hI.2
        have f2 := hide hI.1
        replace hI := hI.2
        have f3 := hide hI.1
        replace hI := hI.2
        have f4 := hide hI.1
        replace hI := hI.2
        have f5 := hide hI.1
        replace hI := hI.2
        have f6 := hide hI.1
        replace hI := hI.2
        have f7 := hide hI.1
        replace hI := hI.2
        have f8 := hide hI.1
        replace hI := hI.2
        have f9 := hide hI.1
        replace hI := hI.2
        have f10 := hide hI.1
        replace hI := hI.2
        have f11 := hide hI.1
        replace hI := hI.2
        have f12 := hide hI.1
        replace hI := hI.2
        have f13 := hide hI.1
        replace hI := hI.2
        have f14 := hide hI.1
        replace hI := hI.2
        have f15 := hide hI.1
        replace hI := hI.2
        have f16 := hide hI.1
        replace hI := hI.2
        have f17 := hide hI
        clear hI
        have r00 := hG.1.size
        obtain rfl := f1.out (hD.on 1 (by kernel_rfl))
        have g15 := f15.out (hD.on 15 (by kernel_rfl))
        obtain rfl := f16.out (hD.on 16 (by kernel_rfl))
        try simp only [puts, Act.put, List.setIfInBounds_toArray, List.set_cons_zero, List.set_cons_succ]
        obtain ⟨g1, c1, rfl, hO1⟩ := g15
        have bC0 := hG.2.1 hL
        have z0 := bC0.frozen 1
        have z1 := bC0.cell 1 rfl
        go_simp
        have hb : True := trivial
        exact hK.out _ undef _ (by simp only [puts, Act.put, List.setIfInBounds_toArray, List.set_cons_zero, List.set_cons_succ] <;> rfl) ⟨⟨hG.1.set 1 _, fun h => (by cases h), fun h => absurd (h.symm.trans (hD.on 15 (by kernel_rfl))) (by decide)⟩, (fun h => f0.out h), (fun h => f1.out h), (fun h => f2.out h), (fun h => f3.out h), (fun h => f4.out h), (fun h => f5.out h), (fun h => f6.out h), (fun h => f7.out h), (fun h => f8.out h), (fun h => f9.out h), (fun h => f10.out h), (fun h => f11.out h), (fun h => f12.out h), (fun h => f13.out h), (fun h => (fun h => (fun h21 => absurd (h21.symm.trans (hD.on 15 (by kernel_rfl))) (by decide))) (f14.out h)), (fun h => (fun h => let ⟨g2, c2, e, ho⟩ := h; ⟨g2, c2, e, ho.setO bC0 (by decide) _⟩) (f15.out h)), (fun h => f16.out h), (fun _ => ⟨⟨hD.on 1 (by kernel_rfl), hD.on 15 (by kernel_rfl)⟩, g1, c1, rfl, bC0.set 1 _⟩)⟩
    intro L vs W hlen hall hI
    obtain ⟨x0, x1, x2, x3, x4, x5, x6, x7, x8, x9, x10, x11, x12, x13, x14, x15, x16, x17, rfl⟩ := len18 hlen
    have hG := hI.1
    replace hI := hI.2
    have f0 := hide hI.1
    replace hI := hI.2
    have f1 := hide hI.1
    replace hI := hI.2
    have f2 := hide hI.1
    replace hI := hI.2
    have f3 := hide hI.1
    replace hI := hI.2
    have f4 := hide hI.1
    replace hI := hI.2
    have f5 := hide hI.1
    replace hI := hI.2
    have f6 := hide hI.1
    replace hI := hI.2
    have f7 := hide hI.1
    replace hI := hI.2
    have f8 := hide hI.1
    replace hI := hI.2
    have f9 := hide hI.1
    replace hI := hI.2
    have f10 := hide hI.1
    replace hI := hI.2
    have f11 := hide hI.1
    replace hI := hI.2
    have f12 := hide hI.1
    replace hI := hI.2
    have f13 := hide hI.1
    replace hI := hI.2
    have f14 := hide hI.1
    replace hI := hI.2
    have f15 := hide hI.1
    replace hI := hI.2
    have f16 := hide hI.1
    replace hI := hI.2
    have f17 := hide hI
    clear hI
    obtain rfl := f0.out (hall 0 (by decide))
    obtain rfl := f1.out (hall 1 (by decide))
    obtain rfl := f2.out (hall 2 (by decide))
    obtain rfl := f3.out (hall 3 (by decide))
    obtain rfl := f4.out (hall 4 (by decide))
    obtain rfl := f5.out (hall 5 (by decide))
    obtain rfl := f6.out (hall 6 (by decide))
    obtain rfl := f7.out (hall 7 (by decide))
    obtain rfl := f8.out (hall 8 (by decide))
    obtain rfl := f9.out (hall 9 (by decide))
    obtain rfl := f10.out (hall 10 (by decide))
    obtain rfl := f11.out (hall 11 (by decide))
    obtain rfl := f12.out (hall 12 (by decide))
    obtain rfl := f13.out (hall 13 (by decide))
    have g14 := f14.out (hall 14 (by decide))
    have g15 := f15.out (hall 15 (by decide))
    obtain rfl := f16.out (hall 16 (by decide))
    have g17 := f17.out (hall 17 (by decide))
    have hal := hide hall
    clear hall f0 f1 f2 f3 f4 f5 f6 f7 f8 f9 f10 f11 f12 f13 f14 f15 f16 f17
    try simp only [puts, Act.put, List.setIfInBounds_toArray, List.set_cons_zero, List.set_cons_succ]
    obtain ⟨g1, c1, e21, hO21⟩ := g15
    obtain ⟨-, g2, c2, e22, hC23⟩ := g17
    have hCL := HCO.out.cl.kept hG.1 bC1 (by decide) (by decide) (by decide) (by decide)
    have hFL := HCO.out.fa.kept hG.1 bC1 (by decide) (by decide)
    have hRL : OwnR W B 55 3 x15 ((c.repeals ++ [RepealD.mk k P0 (q.day + 1 + P1)]).map repealC) := by rw [List.map_append, HLr.out]; exact hO21
    subst e21
    cases e22
    have HLCI := hide (((CodeOwn.mk (c := CodeD.mk c.clauses (c.repeals ++ [RepealD.mk k P0 (q.day + 1 + P1)]) c.facts) hCL hRL hFL).at (C := 0) (Nat.zero_le _) (Nat.zero_le _)).keeps (keeps_frm _ _))
    rw [← HLC.out] at HLCI
    have HWB := hide (keeps_low_effY hG.1 (show w.heap.size ≤ B by omega) (show w.heap.size ≤ w6.heap.size by omega) HW3.out)
    have HCIW := hide (HCI.out.below (keeps_low_effY hG.1 (show w5.heap.size ≤ B from hB1) (show w5.heap.size ≤ w6.heap.size by omega) HBY.out))
    have bQW := hG.1.blk HBQ.out hneQ (by decide)
    have bCW := hG.1.blk HBC.out hneC (by decide)
    have l0 := hC23.cell 0 rfl
    have l1 := hC23.cell 1 rfl
    have l2 := hC23.cell 2 rfl
    have q0 := bQW.cell 0 rfl
    have q1 := bQW.cell 1 rfl
    have q2 := bQW.cell 2 rfl
    have q3 := bQW.cell 3 rfl
    have HMR1 := hide (fun m => HMR.out k m HKN.out)
    clear hG hal hCL hFL hRL hO21 ww1 ww2 bC1 hOR HCO HLr hB1 hB2 HCI HBY HYB HBC1 HOR HMR HMT HLC HW3
    go_wp2_with fail
    refine (decide_ok LC q _ _ _ W HLCI.out HLT2.out.1 HQ.out).mono ?_
    rintro e w7 ⟨la2, ln2, rfl, -, hb7⟩
    rw [HLT2.out.2]
    generalize (decideP LC q).length = dl
    have hciW := HCIW.out.below hb7
    have bQ7 := bQW.later hb7
    have bC7 := bCW.later hb7
    have hw7 := below2 HWB.out hb7
    obtain ⟨a', n', e', -, -, hcc⟩ := hciW.cl
    cases e'
    obtain ⟨kb, ko, nv0, bv0, rfl, k0, k1, k2, k3, k4, k5, hn, hbs⟩ := hcc k HKN.out
    have HGV := hide (clause_gives HV.out HKN.out)
    have HYL := hide (HLN2.out k HKN.out)
    have HY : Hid (c.clauses.getD k clause0 = c.clauses.getD k clause0) := hide rfl
    generalize hyy : c.clauses.getD k clause0 = y at HGV HYL k0 k1 k2 k3 k4 k5 hn hbs HMR1
    have HYY := hide hyy
    have c0 := bC7.cell 0 rfl
    have hkI : (k : Int) < c.clauses.length := by have := HKN.out; omega
    clear l0 l1 l2 q0 q1 q2 q3 hC23 bQW bCW hb7 HLCI HLT2 HCIW hcc HWB HY hyy
    by_cases hg0 : y.gives = 0
    · have hg1 : (y.gives == 0) = true := by simp [hg0]
      clear HGV
      go_wp2_with fail
      go_ret
      exact ⟨rfl, hw7⟩
    · have hg1 : (y.gives == 0) = false := by simp [hg0]
      obtain ⟨hgl, hgu⟩ := HGV.out
      have hgp : 0 < y.gives := by omega
      have HCI7 := hide hciW
      have HBC7 := hide bC7
      have HBQ7 := hide bQ7
      have HW7 := hide hw7
      clear hciW bQ7 hw7 hg0
      go_wp2_with fail
      refine (pickl_any nu y.gives _ HNU.out.1 HNU.out.2 hgp (by omega)).mono ?_
      rintro e w8 ⟨rfl, rfl⟩
      obtain ⟨hm0, hm1⟩ := pkF_bd hgp nu
      generalize pkF nu y.gives = m at *
      have HQ2 : Hid (asksB ⟨q.thing, m, q.day, q.known⟩ = true) := hide (by
        have h := HQ.out
        simp only [asksB, Bool.and_eq_true, inB_iff] at h ⊢
        exact ⟨⟨⟨h.1.1.1, by omega⟩, h.1.2⟩, h.2⟩)
      have HM2 := hide (HMR1.out m hm0 hm1)
      have c0 := HBC7.out.cell 0 rfl
      have c1 := HBC7.out.cell 1 rfl
      have c2 := HBC7.out.cell 2 rfl
      have q0 := HBQ7.out.cell 0 rfl
      have q2 := HBQ7.out.cell 2 rfl
      have q3 := HBQ7.out.cell 3 rfl
      clear HMR1
      go_wp2_with fail
      refine (decide_ok c ⟨q.thing, m, q.day, q.known⟩ _ _ _ _ HCI7.out HV.out HQ2.out).mono ?_
      rintro e w8b ⟨la3, ln3, rfl, -, hb8⟩
      generalize (decideP c ⟨q.thing, m, q.day, q.known⟩).length = dl2
      generalize answerB c ⟨q.thing, m, q.day, q.known⟩ = is at *
      have HCI8 := hide (HCI7.out.below hb8)
      have bC8 := HBC7.out.later hb8
      have bQ8 := HBQ7.out.later hb8
      have hw8 := below2 HW7.out hb8
      clear hb8 c0 c1 c2 q0 q2 q3 k0 k1 k2 k3 k4 k5
      have c0 := bC8.cell 0 rfl
      have c1 := bC8.cell 1 rfl
      have c2 := bC8.cell 2 rfl
      go_wp2_with fail
      refine (copyr_any c _ _ _ _ HCI8.out (by omega) (by omega) (by omega) (fun z hz => by have := HMT2.out z hz; omega)).mono ?_
      rintro e w9 ⟨lc2, lr2, lf2, B2, rfl, hB3, hB4, hco2, hb9⟩
      obtain ⟨⟨lca2, lcn2, rfl, -, -, -⟩, ⟨lra2, lrn2, rfl, -, -, -⟩, ⟨lfa2, lfn2, rfl, -, -, -⟩⟩ := id (hco2.at (C := 0) (Nat.zero_le _) (Nat.zero_le _))
      have hbQl := bQ8.lt
      have hw8s := hw8.size
      obtain ⟨gw, rfl, hgw1, hgw2, hgwf, nv, bv, hnv, hbv, kc3, kc4⟩ := clauses_at hco2.cl HKN.out
      obtain ⟨na, nn, rfl, -⟩ := id hnv
      obtain ⟨ba, bn, rfl, -⟩ := id hbv
      rw [HYY.out] at hnv hbv kc3 kc4
      clear c0 c1 c2
      cases is
      · go_wp2_with fail
        generalize hV1 : World.alloc w9 _ = V1
        have zV1 : V1.heap.size = w9.heap.size + 1 := by rw [← hV1]; simp
        have bV1 : Below w9.heap.size w9 V1 := by rw [← hV1]; exact bal w9 _
        have bW : Blk V1 (w9.heap.size) [.slice (some ⟨gw, 0, none⟩) c.clauses.length lcn2, .slice lra2 c.repeals.length lrn2, .slice lfa2 c.facts.length lfn2] 34 := by rw [← hV1]; exact Blk.newA w9 _ (by first | rfl | simp)
        have Vb := bV1
        have Vz := zV1
        clear hV1 zV1 bV1
        have HNV := hide (hbv.keeps (keeps_frmY _ _ _)).at
        have HIN := hide (fun W (hb : Below V1.heap.size V1 W) => inserted_any y.bars m _ W (IntsAt.below (below2 Vb hb) HNV.out) (by have := HYL.out; omega))
        have HMX : Hid (moreX y false m = { y with bars := insertedF y.bars m }) := hide rfl
        generalize insertedF y.bars m = R at HIN HMX
        replace kc4 := keep Vb kc4
        have frz : ∀ W, Below V1.heap.size V1 W → W.frozen? ⟨gw, k * 6 + 4, none⟩ = false := fun W hb => by
          obtain ⟨g', e', -, -, hf, -⟩ := clauses_at (hco2.later (below2 Vb hb)).cl HKN.out
          cases e'
          exact hf _
        have HCO2 := hide hco2
        have HQ8 := hide bQ8
        have HB9 := hide hb9
        have HVB := hide Vb
        have HW8 := hide hw8
        clear hco2 bQ8 bC8 hb9 Vb hw8 hnv hbv HNV
        refine wp_region_inv [some 135, some 136, some 137, some 138, some 139, some 140, some 141, some 142, some 143, some 144, some 145, some 146, some 147, none] (fun L vs W => match vs with | [x0, x1, x2, x3, x4, x5, x6, x7, x8, x9, x10, x11, x12, x13] => ((L 13 = false → Below V1.heap.size V1 W) ∧ (L 13 = true → ∃ W0, Below V1.heap.size V1 W0 ∧ IntsIn W0.cell? x10 (R) ∧ W = W0.setCell ⟨gw, k * 6 + 4, none⟩ x10)) ∧ (L 0 = true → x0 = .pointer (some ⟨w9.heap.size, 0, none⟩)) ∧ (L 1 = true → x1 = .slice (some ⟨gw, 0, none⟩) c.clauses.length lcn2) ∧ (L 2 = true → x2 = .int .i64 k) ∧ (L 3 = true → x3 = .pointer (some ⟨w9.heap.size, 0, none⟩)) ∧ (L 4 = true → x4 = .slice (some ⟨gw, 0, none⟩) c.clauses.length lcn2) ∧ (L 5 = true → x5 = .int .i64 k) ∧ (L 6 = true → x6 = .pointer (some ⟨gw, k * 6, none⟩)) ∧ (L 7 = true → x7 = .pointer (some ⟨gw, k * 6 + 4, none⟩)) ∧ (L 8 = true → x8 = .slice ba y.bars.length bn) ∧ (L 9 = true → x9 = .int .i64 m) ∧ (L 10 = true → ∃ a9 m9, x10 = .slice a9 (R).length m9 ∧ IntsIn W.cell? x10 (R)) ∧ (L 11 = true → x11 = .pointer (some ⟨gw, k * 6, none⟩)) ∧ (L 12 = true → x12 = .pointer (some ⟨gw, k * 6 + 4, none⟩)) ∧ (L 13 = true → (L 1 = true ∧ L 4 = true ∧ L 8 = true ∧ L 10 = true) ∧ True) | _ => False) [_, _, _, _, _, _, _, _, _, _, _, _, _, undef] (by kernel_rfl) (by kernel_rfl) rfl (by simp only [puts, Act.put, List.setIfInBounds_toArray, List.set_cons_zero, List.set_cons_succ] <;> rfl) ?_ ?_ ?_
        · exact ⟨⟨fun _ => (Below.refl _ _).drew, fun h => (by cases h)⟩, (fun h => by cases h), (fun h => by cases h), (fun h => by cases h), (fun h => by cases h), (fun h => by cases h), (fun h => by cases h), (fun h => by cases h), (fun h => by cases h), (fun h => by cases h), (fun h => by cases h), (fun h => by cases h), (fun h => by cases h), (fun h => by cases h), (fun h => by cases h)⟩
        · refine ⟨?_, ?_, ?_, ?_, ?_, ?_, ?_, ?_, ?_, ?_, ?_, ?_, ?_, ?_, trivial⟩
          · intro L vs W hlen hL hD hI K hK
            obtain ⟨x0, x1, x2, x3, x4, x5, x6, x7, x8, x9, x10, x11, x12, x13, rfl⟩ := len14 hlen
            have hG := hI.1
            replace hI := hI.2
            have f0 := hide hI.1
            replace hI := hI.2
            have f1 := hide hI.1
            replace hI := hI.2
            have f2 := hide hI.1
            replace hI := hI.2
            have f3 := hide hI.1
            replace hI := hI.2
            have f4 := hide hI.1
            replace hI := hI.2
            have f5 := hide hI.1
            replace hI := hI.2
            have f6 := hide hI.1
            replace hI := hI.2
            have f7 := hide hI.1
            replace hI := hI.2
            have f8 := hide hI.1
            replace hI := hI.2
            have f9 := hide hI.1
            replace hI := hI.2
            have f10 := hide hI.1
            replace hI := hI.2
            have f11 := hide hI.1
            replace hI := hI.2
            have f12 := hide hI.1
            replace hI := hI.2
            have f13 := hide hI
            clear hI
            try simp only [puts, Act.put, List.setIfInBounds_toArray, List.set_cons_zero, List.set_cons_succ]
            try go_simp
            exact hK.out _ _ _ (by simp only [puts, Act.put, List.setIfInBounds_toArray, List.set_cons_zero, List.set_cons_succ] <;> rfl) ⟨hG, (fun _ => rfl), (fun h => f1.out h), (fun h => f2.out h), (fun h => f3.out h), (fun h => f4.out h), (fun h => f5.out h), (fun h => f6.out h), (fun h => f7.out h), (fun h => f8.out h), (fun h => f9.out h), (fun h => f10.out h), (fun h => f11.out h), (fun h => f12.out h), (fun h => f13.out h)⟩
          · intro L vs W hlen hL hD hI K hK
            obtain ⟨x0, x1, x2, x3, x4, x5, x6, x7, x8, x9, x10, x11, x12, x13, rfl⟩ := len14 hlen
            have hG := hI.1
            replace hI := hI.2
            have f0 := hide hI.1
            replace hI := hI.2
            have f1 := hide hI.1
            replace hI := hI.2
            have f2 := hide hI.1
            replace hI := hI.2
            have f3 := hide hI.1
            replace hI := hI.2
            have f4 := hide hI.1
            replace hI := hI.2
            have f5 := hide hI.1
            replace hI := hI.2
            have f6 := hide hI.1
            replace hI := hI.2
            have f7 := hide hI.1
            replace hI := hI.2
            have f8 := hide hI.1
            replace hI := hI.2
            have f9 := hide hI.1
            replace hI := hI.2
            have f10 := hide hI.1
            replace hI := hI.2
            have f11 := hide hI.1
            replace hI := hI.2
            have f12 := hide hI.1
            replace hI := hI.2
            have f13 := hide hI
            clear hI
            obtain rfl := f0.out (hD.on 0 (by kernel_rfl))
            try simp only [puts, Act.put, List.setIfInBounds_toArray, List.set_cons_zero, List.set_cons_succ]
            have hb0 : Below V1.heap.size V1 W := hG.1 (Bool.eq_false_iff.2 (fun h => absurd ((f13.out h).1.1.symm.trans hL) (by decide)))
            have r0 := (bW.later hb0).cell 0 rfl
            go_simp
            exact hK.out _ _ _ (by simp only [puts, Act.put, List.setIfInBounds_toArray, List.set_cons_zero, List.set_cons_succ] <;> rfl) ⟨hG, (fun h => f0.out h), (fun _ => rfl), (fun h => f2.out h), (fun h => f3.out h), (fun h => f4.out h), (fun h => f5.out h), (fun h => f6.out h), (fun h => f7.out h), (fun h => f8.out h), (fun h => f9.out h), (fun h => f10.out h), (fun h => f11.out h), (fun h => f12.out h), (fun h => (fun h => ⟨⟨rfl, h.1.2.1, h.1.2.2.1, h.1.2.2.2⟩, h.2⟩) (f13.out h))⟩
          · intro L vs W hlen hL hD hI K hK
            obtain ⟨x0, x1, x2, x3, x4, x5, x6, x7, x8, x9, x10, x11, x12, x13, rfl⟩ := len14 hlen
            have hG := hI.1
            replace hI := hI.2
            have f0 := hide hI.1
            replace hI := hI.2
            have f1 := hide hI.1
            replace hI := hI.2
            have f2 := hide hI.1
            replace hI := hI.2
            have f3 := hide hI.1
            replace hI := hI.2
            have f4 := hide hI.1
            replace hI := hI.2
            have f5 := hide hI.1
            replace hI := hI.2
            have f6 := hide hI.1
            replace hI := hI.2
            have f7 := hide hI.1
            replace hI := hI.2
            have f8 := hide hI.1
            replace hI := hI.2
            have f9 := hide hI.1
            replace hI := hI.2
            have f10 := hide hI.1
            replace hI := hI.2
            have f11 := hide hI.1
            replace hI := hI.2
            have f12 := hide hI.1
            replace hI := hI.2
            have f13 := hide hI
            clear hI
            try simp only [puts, Act.put, List.setIfInBounds_toArray, List.set_cons_zero, List.set_cons_succ]
            try go_simp
            exact hK.out _ _ _ (by simp only [puts, Act.put, List.setIfInBounds_toArray, List.set_cons_zero, List.set_cons_succ] <;> rfl) ⟨hG, (fun h => f0.out h), (fun h => f1.out h), (fun _ => rfl), (fun h => f3.out h), (fun h => f4.out h), (fun h => f5.out h), (fun h => f6.out h), (fun h => f7.out h), (fun h => f8.out h), (fun h => f9.out h), (fun h => f10.out h), (fun h => f11.out h), (fun h => f12.out h), (fun h => f13.out h)⟩
          · intro L vs W hlen hL hD hI K hK
            obtain ⟨x0, x1, x2, x3, x4, x5, x6, x7, x8, x9, x10, x11, x12, x13, rfl⟩ := len14 hlen
            have hG := hI.1
            replace hI := hI.2
            have f0 := hide hI.1
            replace hI := hI.2
            have f1 := hide hI.1
            replace hI := hI.2
            have f2 := hide hI.1
            replace hI := hI.2
            have f3 := hide hI.1
            replace hI := hI.2
            have f4 := hide hI.1
            replace hI := hI.2
            have f5 := hide hI.1
            replace hI := hI.2
            have f6 := hide hI.1
            replace hI := hI.2
            have f7 := hide hI.1
            replace hI := hI.2
            have f8 := hide hI.1
            replace hI := hI.2
            have f9 := hide hI.1
            replace hI := hI.2
            have f10 := hide hI.1
            replace hI := hI.2
            have f11 := hide hI.1
            replace hI := hI.2
            have f12 := hide hI.1
            replace hI := hI.2
            have f13 := hide hI
            clear hI
            try simp only [puts, Act.put, List.setIfInBounds_toArray, List.set_cons_zero, List.set_cons_succ]
            try go_simp
            exact hK.out _ _ _ (by simp only [puts, Act.put, List.setIfInBounds_toArray, List.set_cons_zero, List.set_cons_succ] <;> rfl) ⟨hG, (fun h => f0.out h), (fun h => f1.out h), (fun h => f2.out h), (fun _ => rfl), (fun h => f4.out h), (fun h => f5.out h), (fun h => f6.out h), (fun h => f7.out h), (fun h => f8.out h), (fun h => f9.out h), (fun h => f10.out h), (fun h => f11.out h), (fun h => f12.out h), (fun h => f13.out h)⟩
          · intro L vs W hlen hL hD hI K hK
            obtain ⟨x0, x1, x2, x3, x4, x5, x6, x7, x8, x9, x10, x11, x12, x13, rfl⟩ := len14 hlen
            have hG := hI.1
            replace hI := hI.2
            have f0 := hide hI.1
            replace hI := hI.2
            have f1 := hide hI.1
            replace hI := hI.2
            have f2 := hide hI.1
            replace hI := hI.2
            have f3 := hide hI.1
            replace hI := hI.2
            have f4 := hide hI.1
            replace hI := hI.2
            have f5 := hide hI.1
            replace hI := hI.2
            have f6 := hide hI.1
            replace hI := hI.2
            have f7 := hide hI.1
            replace hI := hI.2
            have f8 := hide hI.1
            replace hI := hI.2
            have f9 := hide hI.1
            replace hI := hI.2
            have f10 := hide hI.1
            replace hI := hI.2
            have f11 := hide hI.1
            replace hI := hI.2
            have f12 := hide hI.1
            replace hI := hI.2
            have f13 := hide hI
            clear hI
            obtain rfl := f3.out (hD.on 3 (by kernel_rfl))
            try simp only [puts, Act.put, List.setIfInBounds_toArray, List.set_cons_zero, List.set_cons_succ]
            have hb0 : Below V1.heap.size V1 W := hG.1 (Bool.eq_false_iff.2 (fun h => absurd ((f13.out h).1.2.1.symm.trans hL) (by decide)))
            have r0 := (bW.later hb0).cell 0 rfl
            go_simp
            exact hK.out _ _ _ (by simp only [puts, Act.put, List.setIfInBounds_toArray, List.set_cons_zero, List.set_cons_succ] <;> rfl) ⟨hG, (fun h => f0.out h), (fun h => f1.out h), (fun h => f2.out h), (fun h => f3.out h), (fun _ => rfl), (fun h => f5.out h), (fun h => f6.out h), (fun h => f7.out h), (fun h => f8.out h), (fun h => f9.out h), (fun h => f10.out h), (fun h => f11.out h), (fun h => f12.out h), (fun h => (fun h => ⟨⟨h.1.1, rfl, h.1.2.2.1, h.1.2.2.2⟩, h.2⟩) (f13.out h))⟩
          · intro L vs W hlen hL hD hI K hK
            obtain ⟨x0, x1, x2, x3, x4, x5, x6, x7, x8, x9, x10, x11, x12, x13, rfl⟩ := len14 hlen
            have hG := hI.1
            replace hI := hI.2
            have f0 := hide hI.1
            replace hI := hI.2
            have f1 := hide hI.1
            replace hI := hI.2
            have f2 := hide hI.1
            replace hI := hI.2
            have f3 := hide hI.1
            replace hI := hI.2
            have f4 := hide hI.1
            replace hI := hI.2
            have f5 := hide hI.1
            replace hI := hI.2
            have f6 := hide hI.1
            replace hI := hI.2
            have f7 := hide hI.1
            replace hI := hI.2
            have f8 := hide hI.1
            replace hI := hI.2
            have f9 := hide hI.1
            replace hI := hI.2
            have f10 := hide hI.1
            replace hI := hI.2
            have f11 := hide hI.1
            replace hI := hI.2
            have f12 := hide hI.1
            replace hI := hI.2
            have f13 := hide hI
            clear hI
            try simp only [puts, Act.put, List.setIfInBounds_toArray, List.set_cons_zero, List.set_cons_succ]
            try go_simp
            exact hK.out _ _ _ (by simp only [puts, Act.put, List.setIfInBounds_toArray, List.set_cons_zero, List.set_cons_succ] <;> rfl) ⟨hG, (fun h => f0.out h), (fun h => f1.out h), (fun h => f2.out h), (fun h => f3.out h), (fun h => f4.out h), (fun _ => rfl), (fun h => f6.out h), (fun h => f7.out h), (fun h => f8.out h), (fun h => f9.out h), (fun h => f10.out h), (fun h => f11.out h), (fun h => f12.out h), (fun h => f13.out h)⟩
          · intro L vs W hlen hL hD hI K hK
            obtain ⟨x0, x1, x2, x3, x4, x5, x6, x7, x8, x9, x10, x11, x12, x13, rfl⟩ := len14 hlen
            have hG := hI.1
            replace hI := hI.2
            have f0 := hide hI.1
            replace hI := hI.2
            have f1 := hide hI.1
            replace hI := hI.2
            have f2 := hide hI.1
            replace hI := hI.2
            have f3 := hide hI.1
            replace hI := hI.2
            have f4 := hide hI.1
            replace hI := hI.2
            have f5 := hide hI.1
            replace hI := hI.2
            have f6 := hide hI.1
            replace hI := hI.2
            have f7 := hide hI.1
            replace hI := hI.2
            have f8 := hide hI.1
            replace hI := hI.2
            have f9 := hide hI.1
            replace hI := hI.2
            have f10 := hide hI.1
            replace hI := hI.2
            have f11 := hide hI.1
            replace hI := hI.2
            have f12 := hide hI.1
            replace hI := hI.2
            have f13 := hide hI
            clear hI
            obtain rfl := f4.out (hD.on 4 (by kernel_rfl))
            obtain rfl := f5.out (hD.on 5 (by kernel_rfl))
            try simp only [puts, Act.put, List.setIfInBounds_toArray, List.set_cons_zero, List.set_cons_succ]
            try go_simp
            exact hK.out _ _ _ (by simp only [puts, Act.put, List.setIfInBounds_toArray, List.set_cons_zero, List.set_cons_succ] <;> rfl) ⟨hG, (fun h => f0.out h), (fun h => f1.out h), (fun h => f2.out h), (fun h => f3.out h), (fun h => f4.out h), (fun h => f5.out h), (fun _ => rfl), (fun h => f7.out h), (fun h => f8.out h), (fun h => f9.out h), (fun h => f10.out h), (fun h => f11.out h), (fun h => f12.out h), (fun h => f13.out h)⟩
          · intro L vs W hlen hL hD hI K hK
            obtain ⟨x0, x1, x2, x3, x4, x5, x6, x7, x8, x9, x10, x11, x12, x13, rfl⟩ := len14 hlen
            have hG := hI.1
            replace hI := hI.2
            have f0 := hide hI.1
            replace hI := hI.2
            have f1 := hide hI.1
            replace hI := hI.2
            have f2 := hide hI.1
            replace hI := hI.2
            have f3 := hide hI.1
            replace hI := hI.2
            have f4 := hide hI.1
            replace hI := hI.2
            have f5 := hide hI.1
            replace hI := hI.2
            have f6 := hide hI.1
            replace hI := hI.2
            have f7 := hide hI.1
            replace hI := hI.2
            have f8 := hide hI.1
            replace hI := hI.2
            have f9 := hide hI.1
            replace hI := hI.2
            have f10 := hide hI.1
            replace hI := hI.2
            have f11 := hide hI.1
            replace hI := hI.2
            have f12 := hide hI.1
            replace hI := hI.2
            have f13 := hide hI
            clear hI
            obtain rfl := f6.out (hD.on 6 (by kernel_rfl))
            try simp only [puts, Act.put, List.setIfInBounds_toArray, List.set_cons_zero, List.set_cons_succ]
            try go_simp
            exact hK.out _ _ _ (by simp only [puts, Act.put, List.setIfInBounds_toArray, List.set_cons_zero, List.set_cons_succ] <;> rfl) ⟨hG, (fun h => f0.out h), (fun h => f1.out h), (fun h => f2.out h), (fun h => f3.out h), (fun h => f4.out h), (fun h => f5.out h), (fun h => f6.out h), (fun _ => rfl), (fun h => f8.out h), (fun h => f9.out h), (fun h => f10.out h), (fun h => f11.out h), (fun h => f12.out h), (fun h => f13.out h)⟩
          · intro L vs W hlen hL hD hI K hK
            obtain ⟨x0, x1, x2, x3, x4, x5, x6, x7, x8, x9, x10, x11, x12, x13, rfl⟩ := len14 hlen
            have hG := hI.1
            replace hI := hI.2
            have f0 := hide hI.1
            replace hI := hI.2
            have f1 := hide hI.1
            replace hI := hI.2
            have f2 := hide hI.1
            replace hI := hI.2
            have f3 := hide hI.1
            replace hI := hI.2
            have f4 := hide hI.1
            replace hI := hI.2
            have f5 := hide hI.1
            replace hI := hI.2
            have f6 := hide hI.1
            replace hI := hI.2
            have f7 := hide hI.1
            replace hI := hI.2
            have f8 := hide hI.1
            replace hI := hI.2
            have f9 := hide hI.1
            replace hI := hI.2
            have f10 := hide hI.1
            replace hI := hI.2
            have f11 := hide hI.1
            replace hI := hI.2
            have f12 := hide hI.1
            replace hI := hI.2
            have f13 := hide hI
            clear hI
            obtain rfl := f7.out (hD.on 7 (by kernel_rfl))
            try simp only [puts, Act.put, List.setIfInBounds_toArray, List.set_cons_zero, List.set_cons_succ]
            have hb0 : Below V1.heap.size V1 W := hG.1 (Bool.eq_false_iff.2 (fun h => absurd ((f13.out h).1.2.2.1.symm.trans hL) (by decide)))
            have r0 := keep hb0 kc4
            go_simp
            exact hK.out _ _ _ (by simp only [puts, Act.put, List.setIfInBounds_toArray, List.set_cons_zero, List.set_cons_succ] <;> rfl) ⟨hG, (fun h => f0.out h), (fun h => f1.out h), (fun h => f2.out h), (fun h => f3.out h), (fun h => f4.out h), (fun h => f5.out h), (fun h => f6.out h), (fun h => f7.out h), (fun _ => rfl), (fun h => f9.out h), (fun h => f10.out h), (fun h => f11.out h), (fun h => f12.out h), (fun h => (fun h => ⟨⟨h.1.1, h.1.2.1, rfl, h.1.2.2.2⟩, h.2⟩) (f13.out h))⟩
          · intro L vs W hlen hL hD hI K hK
            obtain ⟨x0, x1, x2, x3, x4, x5, x6, x7, x8, x9, x10, x11, x12, x13, rfl⟩ := len14 hlen
            have hG := hI.1
            replace hI := hI.2
            have f0 := hide hI.1
            replace hI := hI.2
            have f1 := hide hI.1
            replace hI := hI.2
            have f2 := hide hI.1
            replace hI := hI.2
            have f3 := hide hI.1
            replace hI := hI.2
            have f4 := hide hI.1
            replace hI := hI.2
            have f5 := hide hI.1
            replace hI := hI.2
            have f6 := hide hI.1
            replace hI := hI.2
            have f7 := hide hI.1
            replace hI := hI.2
            have f8 := hide hI.1
            replace hI := hI.2
            have f9 := hide hI.1
            replace hI := hI.2
            have f10 := hide hI.1
            replace hI := hI.2
            have f11 := hide hI.1
            replace hI := hI.2
            have f12 := hide hI.1
            replace hI := hI.2
            have f13 := hide hI
            clear hI
            try simp only [puts, Act.put, List.setIfInBounds_toArray, List.set_cons_zero, List.set_cons_succ]
            try go_simp
            exact hK.out _ _ _ (by simp only [puts, Act.put, List.setIfInBounds_toArray, List.set_cons_zero, List.set_cons_succ] <;> rfl) ⟨hG, (fun h => f0.out h), (fun h => f1.out h), (fun h => f2.out h), (fun h => f3.out h), (fun h => f4.out h), (fun h => f5.out h), (fun h => f6.out h), (fun h => f7.out h), (fun h => f8.out h), (fun _ => rfl), (fun h => f10.out h), (fun h => f11.out h), (fun h => f12.out h), (fun h => f13.out h)⟩
          · intro L vs W hlen hL hD hI K hK
            obtain ⟨x0, x1, x2, x3, x4, x5, x6, x7, x8, x9, x10, x11, x12, x13, rfl⟩ := len14 hlen
            have hG := hI.1
            replace hI := hI.2
            have f0 := hide hI.1
            replace hI := hI.2
            have f1 := hide hI.1
            replace hI := hI.2
            have f2 := hide hI.1
            replace hI := hI.2
            have f3 := hide hI.1
            replace hI := hI.2
            have f4 := hide hI.1
            replace hI := hI.2
            have f5 := hide hI.1
            replace hI := hI.2
            have f6 := hide hI.1
            replace hI := hI.2
            have f7 := hide hI.1
            replace hI := hI.2
            have f8 := hide hI.1
            replace hI := hI.2
            have f9 := hide hI.1
            replace hI := hI.2
            have f10 := hide hI.1
            replace hI := hI.2
            have f11 := hide hI.1
            replace hI := hI.2
            have f12 := hide hI.1
            replace hI := hI.2
            have f13 := hide hI
            clear hI
            obtain rfl := f8.out (hD.on 8 (by kernel_rfl))
            obtain rfl := f9.out (hD.on 9 (by kernel_rfl))
            try simp only [puts, Act.put, List.setIfInBounds_toArray, List.set_cons_zero, List.set_cons_succ]
            have hb0 : Below V1.heap.size V1 W := hG.1 (Bool.eq_false_iff.2 (fun h => absurd ((f13.out h).1.2.2.2.symm.trans hL) (by decide)))
            try go_simp
            refine (HIN.out W hb0).mono ?_
            rintro e W' ⟨v10, rfl, hv10, hb⟩
            try go_simp
            exact hK.out _ _ _ (by simp only [puts, Act.put, List.setIfInBounds_toArray, List.set_cons_zero, List.set_cons_succ] <;> rfl) ⟨⟨fun _ => below2 hb0 hb, fun h => absurd ((f13.out h).1.2.2.2.symm.trans hL) (by decide)⟩, (fun h => f0.out h), (fun h => f1.out h), (fun h => f2.out h), (fun h => f3.out h), (fun h => f4.out h), (fun h => f5.out h), (fun h => f6.out h), (fun h => f7.out h), (fun h => f8.out h), (fun h => f9.out h), (fun _ => let ⟨a9, m9, e, _⟩ := id hv10; ⟨a9, m9, e, hv10⟩), (fun h => f11.out h), (fun h => f12.out h), (fun h => (fun h => absurd (h.1.2.2.2.symm.trans hL) (by decide)) (f13.out h))⟩
          · intro L vs W hlen hL hD hI K hK
            obtain ⟨x0, x1, x2, x3, x4, x5, x6, x7, x8, x9, x10, x11, x12, x13, rfl⟩ := len14 hlen
            have hG := hI.1
            replace hI := hI.2
            have f0 := hide hI.1
            replace hI := hI.2
            have f1 := hide hI.1
            replace hI := hI.2
            have f2 := hide hI.1
            replace hI := hI.2
            have f3 := hide hI.1
            replace hI := hI.2
            have f4 := hide hI.1
            replace hI := hI.2
            have f5 := hide hI.1
            replace hI := hI.2
            have f6 := hide hI.1
            replace hI := hI.2
            have f7 := hide hI.1
            replace hI := hI.2
            have f8 := hide hI.1
            replace hI := hI.2
            have f9 := hide hI.1
            replace hI := hI.2
            have f10 := hide hI.1
            replace hI := hI.2
            have f11 := hide hI.1
            replace hI := hI.2
            have f12 := hide hI.1
            replace hI := hI.2
            have f13 := hide hI
            clear hI
            obtain rfl := f1.out (hD.on 1 (by kernel_rfl))
            obtain rfl := f2.out (hD.on 2 (by kernel_rfl))
            try simp only [puts, Act.put, List.setIfInBounds_toArray, List.set_cons_zero, List.set_cons_succ]
            try go_simp
            exact hK.out _ _ _ (by simp only [puts, Act.put, List.setIfInBounds_toArray, List.set_cons_zero, List.set_cons_succ] <;> rfl) ⟨hG, (fun h => f0.out h), (fun h => f1.out h), (fun h => f2.out h), (fun h => f3.out h), (fun h => f4.out h), (fun h => f5.out h), (fun h => f6.out h), (fun h => f7.out h), (fun h => f8.out h), (fun h => f9.out h), (fun h => f10.out h), (fun _ => rfl), (fun h => f12.out h), (fun h => f13.out h)⟩
          · intro L vs W hlen hL hD hI K hK
            obtain ⟨x0, x1, x2, x3, x4, x5, x6, x7, x8, x9, x10, x11, x12, x13, rfl⟩ := len14 hlen
            have hG := hI.1
            replace hI := hI.2
            have f0 := hide hI.1
            replace hI := hI.2
            have f1 := hide hI.1
            replace hI := hI.2
            have f2 := hide hI.1
            replace hI := hI.2
            have f3 := hide hI.1
            replace hI := hI.2
            have f4 := hide hI.1
            replace hI := hI.2
            have f5 := hide hI.1
            replace hI := hI.2
            have f6 := hide hI.1
            replace hI := hI.2
            have f7 := hide hI.1
            replace hI := hI.2
            have f8 := hide hI.1
            replace hI := hI.2
            have f9 := hide hI.1
            replace hI := hI.2
            have f10 := hide hI.1
            replace hI := hI.2
            have f11 := hide hI.1
            replace hI := hI.2
            have f12 := hide hI.1
            replace hI := hI.2
            have f13 := hide hI
            clear hI
            obtain rfl := f11.out (hD.on 11 (by kernel_rfl))
            try simp only [puts, Act.put, List.setIfInBounds_toArray, List.set_cons_zero, List.set_cons_succ]
            try go_simp
            exact hK.out _ _ _ (by simp only [puts, Act.put, List.setIfInBounds_toArray, List.set_cons_zero, List.set_cons_succ] <;> rfl) ⟨hG, (fun h => f0.out h), (fun h => f1.out h), (fun h => f2.out h), (fun h => f3.out h), (fun h => f4.out h), (fun h => f5.out h), (fun h => f6.out h), (fun h => f7.out h), (fun h => f8.out h), (fun h => f9.out h), (fun h => f10.out h), (fun h => f11.out h), (fun _ => rfl), (fun h => f13.out h)⟩
          · intro L vs W hlen hL hD hI K hK
            obtain ⟨x0, x1, x2, x3, x4, x5, x6, x7, x8, x9, x10, x11, x12, x13, rfl⟩ := len14 hlen
            have hG := hI.1
            replace hI := hI.2
            have f0 := hide hI.1
            replace hI := hI.2
            have f1 := hide hI.1
            replace hI := hI.2
            have f2 := hide hI.1
            replace hI := hI.2
            have f3 := hide hI.1
            replace hI := hI.2
            have f4 := hide hI.1
            replace hI := hI.2
            have f5 := hide hI.1
            replace hI := hI.2
            have f6 := hide hI.1
            replace hI := hI.2
            have f7 := hide hI.1
            replace hI := hI.2
            have f8 := hide hI.1
            replace hI := hI.2
            have f9 := hide hI.1
            replace hI := hI.2
            have f10 := hide hI.1
            replace hI := hI.2
            have f11 := hide hI.1
            replace hI := hI.2
            have f12 := hide hI.1
            replace hI := hI.2
            have f13 := hide hI
            clear hI
            have g10 := f10.out (hD.on 10 (by kernel_rfl))
            obtain rfl := f12.out (hD.on 12 (by kernel_rfl))
            obtain rfl := f1.out (hD.on 1 (by kernel_rfl))
            obtain rfl := f4.out (hD.on 4 (by kernel_rfl))
            obtain rfl := f8.out (hD.on 8 (by kernel_rfl))
            try simp only [puts, Act.put, List.setIfInBounds_toArray, List.set_cons_zero, List.set_cons_succ]
            obtain ⟨a9, m9, rfl, hv9⟩ := g10
            have hst : L 13 = false := hL
            have hb0 := hG.1 hst
            have z0 := frz W hb0
            have z1 := keep hb0 kc4
            go_simp
            have hb : True := trivial
            exact hK.out _ undef _ (by simp only [puts, Act.put, List.setIfInBounds_toArray, List.set_cons_zero, List.set_cons_succ] <;> rfl) ⟨⟨fun h => (by cases h), fun _ => ⟨W, hb0, hv9, rfl⟩⟩, (fun h => f0.out h), (fun h => f1.out h), (fun h => f2.out h), (fun h => f3.out h), (fun h => f4.out h), (fun h => f5.out h), (fun h => f6.out h), (fun h => f7.out h), (fun h => f8.out h), (fun h => f9.out h), (fun h => (fun h => let ⟨a8, m8, e8, h8⟩ := h; ⟨a8, m8, e8, ints_setS z1 _ h8⟩) (f10.out h)), (fun h => f11.out h), (fun h => f12.out h), (fun _ => ⟨⟨hD.on 1 (by kernel_rfl), hD.on 4 (by kernel_rfl), hD.on 8 (by kernel_rfl), hD.on 10 (by kernel_rfl)⟩, trivial⟩)⟩
        intro L vs W hlen hall hI
        obtain ⟨x0, x1, x2, x3, x4, x5, x6, x7, x8, x9, x10, x11, x12, x13, rfl⟩ := len14 hlen
        have hG := hI.1
        replace hI := hI.2
        have f0 := hide hI.1
        replace hI := hI.2
        have f1 := hide hI.1
        replace hI := hI.2
        have f2 := hide hI.1
        replace hI := hI.2
        have f3 := hide hI.1
        replace hI := hI.2
        have f4 := hide hI.1
        replace hI := hI.2
        have f5 := hide hI.1
        replace hI := hI.2
        have f6 := hide hI.1
        replace hI := hI.2
        have f7 := hide hI.1
        replace hI := hI.2
        have f8 := hide hI.1
        replace hI := hI.2
        have f9 := hide hI.1
        replace hI := hI.2
        have f10 := hide hI.1
        replace hI := hI.2
        have f11 := hide hI.1
        replace hI := hI.2
        have f12 := hide hI.1
        replace hI := hI.2
        have f13 := hide hI
        clear hI
        obtain rfl := f0.out (hall 0 (by decide))
        obtain rfl := f1.out (hall 1 (by decide))
        obtain rfl := f2.out (hall 2 (by decide))
        obtain rfl := f3.out (hall 3 (by decide))
        obtain rfl := f4.out (hall 4 (by decide))
        obtain rfl := f5.out (hall 5 (by decide))
        obtain rfl := f6.out (hall 6 (by decide))
        obtain rfl := f7.out (hall 7 (by decide))
        obtain rfl := f8.out (hall 8 (by decide))
        obtain rfl := f9.out (hall 9 (by decide))
        have g10 := f10.out (hall 10 (by decide))
        obtain rfl := f11.out (hall 11 (by decide))
        obtain rfl := f12.out (hall 12 (by decide))
        have g13 := f13.out (hall 13 (by decide))
        have hal := hide hall
        clear hall f0 f1 f2 f3 f4 f5 f6 f7 f8 f9 f10 f11 f12 f13
        try simp only [puts, Act.put, List.setIfInBounds_toArray, List.set_cons_zero, List.set_cons_succ]
        obtain ⟨W0, hb0, hv0, rfl⟩ := hG.2 (hal.out 13 (by decide))
        have hcd : CodeIn (W0.setCell ⟨gw, k * 6 + 4, none⟩ x10).cell? _ _ _ _ := code_put (HCO2.out.later (below2 HVB.out hb0)) HKN.out false hv0
        rw [HYY.out] at hcd
        have hM : CodeIn (W0.setCell ⟨gw, k * 6 + 4, none⟩ x10).cell? (.slice (some ⟨gw, 0, none⟩) c.clauses.length lcn2) (.slice lra2 c.repeals.length lrn2) (.slice lfa2 c.facts.length lfn2) ⟨c.clauses.set k (moreX y false m), c.repeals, c.facts⟩ := by rw [HMX.out]; exact hcd
        have HM := hide hM
        have bWW := (bW.later hb0).other (show w9.heap.size ≠ gw by omega) (k * 6 + 4) x10
        have bQW := (((HQ8.out.later HB9.out).later HVB.out).later hb0).other (show w3.heap.size ≠ gw by omega) (k * 6 + 4) x10
        have HWW := hide ((below2 (below2 (below2 HW8.out HB9.out) HVB.out) hb0).setCell (p := ⟨gw, k * 6 + 4, none⟩) (show w.heap.size ≤ gw by omega) x10)
        have l0 := bWW.cell 0 rfl
        have l1 := bWW.cell 1 rfl
        have l2 := bWW.cell 2 rfl
        have q0 := bQW.cell 0 rfl
        have q1 := bQW.cell 1 rfl
        have q2 := bQW.cell 2 rfl
        have q3 := bQW.cell 3 rfl
        clear hG hal hcd hM hv0 hb0 bW frz HIN
        go_wp2_with fail
        refine (decide_ok ⟨c.clauses.set k (moreX y false m), c.repeals, c.facts⟩ q _ _ _ _ HM.out HM2.out.1 HQ.out).mono ?_
        rintro e w10 ⟨la4, ln4, rfl, -, hb10⟩
        rw [HM2.out.2]
        generalize (decideP ⟨c.clauses.set k (moreX y false m), c.repeals, c.facts⟩ q).length = dl4
        have hwf := below2 HWW.out hb10
        go_wp2_with fail
        go_ret
        exact ⟨rfl, hwf⟩
      · go_wp2_with fail
        generalize hV1 : World.alloc w9 _ = V1
        have zV1 : V1.heap.size = w9.heap.size + 1 := by rw [← hV1]; simp
        have bV1 : Below w9.heap.size w9 V1 := by rw [← hV1]; exact bal w9 _
        have bW : Blk V1 (w9.heap.size) [.slice (some ⟨gw, 0, none⟩) c.clauses.length lcn2, .slice lra2 c.repeals.length lrn2, .slice lfa2 c.facts.length lfn2] 34 := by rw [← hV1]; exact Blk.newA w9 _ (by first | rfl | simp)
        have Vb := bV1
        have Vz := zV1
        clear hV1 zV1 bV1
        have HNV := hide (hnv.keeps (keeps_frmY _ _ _)).at
        have HIN := hide (fun W (hb : Below V1.heap.size V1 W) => inserted_any y.needs m _ W (IntsAt.below (below2 Vb hb) HNV.out) (by have := HYL.out; omega))
        have HMX : Hid (moreX y true m = { y with needs := insertedF y.needs m }) := hide rfl
        generalize insertedF y.needs m = R at HIN HMX
        replace kc3 := keep Vb kc3
        have frz : ∀ W, Below V1.heap.size V1 W → W.frozen? ⟨gw, k * 6 + 3, none⟩ = false := fun W hb => by
          obtain ⟨g', e', -, -, hf, -⟩ := clauses_at (hco2.later (below2 Vb hb)).cl HKN.out
          cases e'
          exact hf _
        have HCO2 := hide hco2
        have HQ8 := hide bQ8
        have HB9 := hide hb9
        have HVB := hide Vb
        have HW8 := hide hw8
        clear hco2 bQ8 bC8 hb9 Vb hw8 hnv hbv HNV
        refine wp_region_inv [some 122, some 123, some 124, some 125, some 126, some 127, some 128, some 129, some 130, some 131, some 132, some 133, some 134, none] (fun L vs W => match vs with | [x0, x1, x2, x3, x4, x5, x6, x7, x8, x9, x10, x11, x12, x13] => ((L 13 = false → Below V1.heap.size V1 W) ∧ (L 13 = true → ∃ W0, Below V1.heap.size V1 W0 ∧ IntsIn W0.cell? x10 (R) ∧ W = W0.setCell ⟨gw, k * 6 + 3, none⟩ x10)) ∧ (L 0 = true → x0 = .pointer (some ⟨w9.heap.size, 0, none⟩)) ∧ (L 1 = true → x1 = .slice (some ⟨gw, 0, none⟩) c.clauses.length lcn2) ∧ (L 2 = true → x2 = .int .i64 k) ∧ (L 3 = true → x3 = .pointer (some ⟨w9.heap.size, 0, none⟩)) ∧ (L 4 = true → x4 = .slice (some ⟨gw, 0, none⟩) c.clauses.length lcn2) ∧ (L 5 = true → x5 = .int .i64 k) ∧ (L 6 = true → x6 = .pointer (some ⟨gw, k * 6, none⟩)) ∧ (L 7 = true → x7 = .pointer (some ⟨gw, k * 6 + 3, none⟩)) ∧ (L 8 = true → x8 = .slice na y.needs.length nn) ∧ (L 9 = true → x9 = .int .i64 m) ∧ (L 10 = true → ∃ a9 m9, x10 = .slice a9 (R).length m9 ∧ IntsIn W.cell? x10 (R)) ∧ (L 11 = true → x11 = .pointer (some ⟨gw, k * 6, none⟩)) ∧ (L 12 = true → x12 = .pointer (some ⟨gw, k * 6 + 3, none⟩)) ∧ (L 13 = true → (L 1 = true ∧ L 4 = true ∧ L 8 = true ∧ L 10 = true) ∧ True) | _ => False) [_, _, _, _, _, _, _, _, _, _, _, _, _, undef] (by kernel_rfl) (by kernel_rfl) rfl (by simp only [puts, Act.put, List.setIfInBounds_toArray, List.set_cons_zero, List.set_cons_succ] <;> rfl) ?_ ?_ ?_
        · exact ⟨⟨fun _ => (Below.refl _ _).drew, fun h => (by cases h)⟩, (fun h => by cases h), (fun h => by cases h), (fun h => by cases h), (fun h => by cases h), (fun h => by cases h), (fun h => by cases h), (fun h => by cases h), (fun h => by cases h), (fun h => by cases h), (fun h => by cases h), (fun h => by cases h), (fun h => by cases h), (fun h => by cases h), (fun h => by cases h)⟩
        · refine ⟨?_, ?_, ?_, ?_, ?_, ?_, ?_, ?_, ?_, ?_, ?_, ?_, ?_, ?_, trivial⟩
          · intro L vs W hlen hL hD hI K hK
            obtain ⟨x0, x1, x2, x3, x4, x5, x6, x7, x8, x9, x10, x11, x12, x13, rfl⟩ := len14 hlen
            have hG := hI.1
            replace hI := hI.2
            have f0 := hide hI.1
            replace hI := hI.2
            have f1 := hide hI.1
            replace hI := hI.2
            have f2 := hide hI.1
            replace hI := hI.2
            have f3 := hide hI.1
            replace hI := hI.2
            have f4 := hide hI.1
            replace hI := hI.2
            have f5 := hide hI.1
            replace hI := hI.2
            have f6 := hide hI.1
            replace hI := hI.2
            have f7 := hide hI.1
            replace hI := hI.2
            have f8 := hide hI.1
            replace hI := hI.2
            have f9 := hide hI.1
            replace hI := hI.2
            have f10 := hide hI.1
            replace hI := hI.2
            have f11 := hide hI.1
            replace hI := hI.2
            have f12 := hide hI.1
            replace hI := hI.2
            have f13 := hide hI
            clear hI
            try simp only [puts, Act.put, List.setIfInBounds_toArray, List.set_cons_zero, List.set_cons_succ]
            try go_simp
            exact hK.out _ _ _ (by simp only [puts, Act.put, List.setIfInBounds_toArray, List.set_cons_zero, List.set_cons_succ] <;> rfl) ⟨hG, (fun _ => rfl), (fun h => f1.out h), (fun h => f2.out h), (fun h => f3.out h), (fun h => f4.out h), (fun h => f5.out h), (fun h => f6.out h), (fun h => f7.out h), (fun h => f8.out h), (fun h => f9.out h), (fun h => f10.out h), (fun h => f11.out h), (fun h => f12.out h), (fun h => f13.out h)⟩
          · intro L vs W hlen hL hD hI K hK
            obtain ⟨x0, x1, x2, x3, x4, x5, x6, x7, x8, x9, x10, x11, x12, x13, rfl⟩ := len14 hlen
            have hG := hI.1
            replace hI := hI.2
            have f0 := hide hI.1
            replace hI := hI.2
            have f1 := hide hI.1
            replace hI := hI.2
            have f2 := hide hI.1
            replace hI := hI.2
            have f3 := hide hI.1
            replace hI := hI.2
            have f4 := hide hI.1
            replace hI := hI.2
            have f5 := hide hI.1
            replace hI := hI.2
            have f6 := hide hI.1
            replace hI := hI.2
            have f7 := hide hI.1
            replace hI := hI.2
            have f8 := hide hI.1
            replace hI := hI.2
            have f9 := hide hI.1
            replace hI := hI.2
            have f10 := hide hI.1
            replace hI := hI.2
            have f11 := hide hI.1
            replace hI := hI.2
            have f12 := hide hI.1
            replace hI := hI.2
            have f13 := hide hI
            clear hI
            obtain rfl := f0.out (hD.on 0 (by kernel_rfl))
            try simp only [puts, Act.put, List.setIfInBounds_toArray, List.set_cons_zero, List.set_cons_succ]
            have hb0 : Below V1.heap.size V1 W := hG.1 (Bool.eq_false_iff.2 (fun h => absurd ((f13.out h).1.1.symm.trans hL) (by decide)))
            have r0 := (bW.later hb0).cell 0 rfl
            go_simp
            exact hK.out _ _ _ (by simp only [puts, Act.put, List.setIfInBounds_toArray, List.set_cons_zero, List.set_cons_succ] <;> rfl) ⟨hG, (fun h => f0.out h), (fun _ => rfl), (fun h => f2.out h), (fun h => f3.out h), (fun h => f4.out h), (fun h => f5.out h), (fun h => f6.out h), (fun h => f7.out h), (fun h => f8.out h), (fun h => f9.out h), (fun h => f10.out h), (fun h => f11.out h), (fun h => f12.out h), (fun h => (fun h => ⟨⟨rfl, h.1.2.1, h.1.2.2.1, h.1.2.2.2⟩, h.2⟩) (f13.out h))⟩
          · intro L vs W hlen hL hD hI K hK
            obtain ⟨x0, x1, x2, x3, x4, x5, x6, x7, x8, x9, x10, x11, x12, x13, rfl⟩ := len14 hlen
            have hG := hI.1
            replace hI := hI.2
            have f0 := hide hI.1
            replace hI := hI.2
            have f1 := hide hI.1
            replace hI := hI.2
            have f2 := hide hI.1
            replace hI := hI.2
            have f3 := hide hI.1
            replace hI := hI.2
            have f4 := hide hI.1
            replace hI := hI.2
            have f5 := hide hI.1
            replace hI := hI.2
            have f6 := hide hI.1
            replace hI := hI.2
            have f7 := hide hI.1
            replace hI := hI.2
            have f8 := hide hI.1
            replace hI := hI.2
            have f9 := hide hI.1
            replace hI := hI.2
            have f10 := hide hI.1
            replace hI := hI.2
            have f11 := hide hI.1
            replace hI := hI.2
            have f12 := hide hI.1
            replace hI := hI.2
            have f13 := hide hI
            clear hI
            try simp only [puts, Act.put, List.setIfInBounds_toArray, List.set_cons_zero, List.set_cons_succ]
            try go_simp
            exact hK.out _ _ _ (by simp only [puts, Act.put, List.setIfInBounds_toArray, List.set_cons_zero, List.set_cons_succ] <;> rfl) ⟨hG, (fun h => f0.out h), (fun h => f1.out h), (fun _ => rfl), (fun h => f3.out h), (fun h => f4.out h), (fun h => f5.out h), (fun h => f6.out h), (fun h => f7.out h), (fun h => f8.out h), (fun h => f9.out h), (fun h => f10.out h), (fun h => f11.out h), (fun h => f12.out h), (fun h => f13.out h)⟩
          · intro L vs W hlen hL hD hI K hK
            obtain ⟨x0, x1, x2, x3, x4, x5, x6, x7, x8, x9, x10, x11, x12, x13, rfl⟩ := len14 hlen
            have hG := hI.1
            replace hI := hI.2
            have f0 := hide hI.1
            replace hI := hI.2
            have f1 := hide hI.1
            replace hI := hI.2
            have f2 := hide hI.1
            replace hI := hI.2
            have f3 := hide hI.1
            replace hI := hI.2
            have f4 := hide hI.1
            replace hI := hI.2
            have f5 := hide hI.1
            replace hI := hI.2
            have f6 := hide hI.1
            replace hI := hI.2
            have f7 := hide hI.1
            replace hI := hI.2
            have f8 := hide hI.1
            replace hI := hI.2
            have f9 := hide hI.1
            replace hI := hI.2
            have f10 := hide hI.1
            replace hI := hI.2
            have f11 := hide hI.1
            replace hI := hI.2
            have f12 := hide hI.1
            replace hI := hI.2
            have f13 := hide hI
            clear hI
            try simp only [puts, Act.put, List.setIfInBounds_toArray, List.set_cons_zero, List.set_cons_succ]
            try go_simp
            exact hK.out _ _ _ (by simp only [puts, Act.put, List.setIfInBounds_toArray, List.set_cons_zero, List.set_cons_succ] <;> rfl) ⟨hG, (fun h => f0.out h), (fun h => f1.out h), (fun h => f2.out h), (fun _ => rfl), (fun h => f4.out h), (fun h => f5.out h), (fun h => f6.out h), (fun h => f7.out h), (fun h => f8.out h), (fun h => f9.out h), (fun h => f10.out h), (fun h => f11.out h), (fun h => f12.out h), (fun h => f13.out h)⟩
          · intro L vs W hlen hL hD hI K hK
            obtain ⟨x0, x1, x2, x3, x4, x5, x6, x7, x8, x9, x10, x11, x12, x13, rfl⟩ := len14 hlen
            have hG := hI.1
            replace hI := hI.2
            have f0 := hide hI.1
            replace hI := hI.2
            have f1 := hide hI.1
            replace hI := hI.2
            have f2 := hide hI.1
            replace hI := hI.2
            have f3 := hide hI.1
            replace hI := hI.2
            have f4 := hide hI.1
            replace hI := hI.2
            have f5 := hide hI.1
            replace hI := hI.2
            have f6 := hide hI.1
            replace hI := hI.2
            have f7 := hide hI.1
            replace hI := hI.2
            have f8 := hide hI.1
            replace hI := hI.2
            have f9 := hide hI.1
            replace hI := hI.2
            have f10 := hide hI.1
            replace hI := hI.2
            have f11 := hide hI.1
            replace hI := hI.2
            have f12 := hide hI.1
            replace hI := hI.2
            have f13 := hide hI
            clear hI
            obtain rfl := f3.out (hD.on 3 (by kernel_rfl))
            try simp only [puts, Act.put, List.setIfInBounds_toArray, List.set_cons_zero, List.set_cons_succ]
            have hb0 : Below V1.heap.size V1 W := hG.1 (Bool.eq_false_iff.2 (fun h => absurd ((f13.out h).1.2.1.symm.trans hL) (by decide)))
            have r0 := (bW.later hb0).cell 0 rfl
            go_simp
            exact hK.out _ _ _ (by simp only [puts, Act.put, List.setIfInBounds_toArray, List.set_cons_zero, List.set_cons_succ] <;> rfl) ⟨hG, (fun h => f0.out h), (fun h => f1.out h), (fun h => f2.out h), (fun h => f3.out h), (fun _ => rfl), (fun h => f5.out h), (fun h => f6.out h), (fun h => f7.out h), (fun h => f8.out h), (fun h => f9.out h), (fun h => f10.out h), (fun h => f11.out h), (fun h => f12.out h), (fun h => (fun h => ⟨⟨h.1.1, rfl, h.1.2.2.1, h.1.2.2.2⟩, h.2⟩) (f13.out h))⟩
          · intro L vs W hlen hL hD hI K hK
            obtain ⟨x0, x1, x2, x3, x4, x5, x6, x7, x8, x9, x10, x11, x12, x13, rfl⟩ := len14 hlen
            have hG := hI.1
            replace hI := hI.2
            have f0 := hide hI.1
            replace hI := hI.2
            have f1 := hide hI.1
            replace hI := hI.2
            have f2 := hide hI.1
            replace hI := hI.2
            have f3 := hide hI.1
            replace hI := hI.2
            have f4 := hide hI.1
            replace hI := hI.2
            have f5 := hide hI.1
            replace hI := hI.2
            have f6 := hide hI.1
            replace hI := hI.2
            have f7 := hide hI.1
            replace hI := hI.2
            have f8 := hide hI.1
            replace hI := hI.2
            have f9 := hide hI.1
            replace hI := hI.2
            have f10 := hide hI.1
            replace hI := hI.2
            have f11 := hide hI.1
            replace hI := hI.2
            have f12 := hide hI.1
            replace hI := hI.2
            have f13 := hide hI
            clear hI
            try simp only [puts, Act.put, List.setIfInBounds_toArray, List.set_cons_zero, List.set_cons_succ]
            try go_simp
            exact hK.out _ _ _ (by simp only [puts, Act.put, List.setIfInBounds_toArray, List.set_cons_zero, List.set_cons_succ] <;> rfl) ⟨hG, (fun h => f0.out h), (fun h => f1.out h), (fun h => f2.out h), (fun h => f3.out h), (fun h => f4.out h), (fun _ => rfl), (fun h => f6.out h), (fun h => f7.out h), (fun h => f8.out h), (fun h => f9.out h), (fun h => f10.out h), (fun h => f11.out h), (fun h => f12.out h), (fun h => f13.out h)⟩
          · intro L vs W hlen hL hD hI K hK
            obtain ⟨x0, x1, x2, x3, x4, x5, x6, x7, x8, x9, x10, x11, x12, x13, rfl⟩ := len14 hlen
            have hG := hI.1
            replace hI := hI.2
            have f0 := hide hI.1
            replace hI := hI.2
            have f1 := hide hI.1
            replace hI := hI.2
            have f2 := hide hI.1
            replace hI := hI.2
            have f3 := hide hI.1
            replace hI := hI.2
            have f4 := hide hI.1
            replace hI := hI.2
            have f5 := hide hI.1
            replace hI := hI.2
            have f6 := hide hI.1
            replace hI := hI.2
            have f7 := hide hI.1
            replace hI := hI.2
            have f8 := hide hI.1
            replace hI := hI.2
            have f9 := hide hI.1
            replace hI := hI.2
            have f10 := hide hI.1
            replace hI := hI.2
            have f11 := hide hI.1
            replace hI := hI.2
            have f12 := hide hI.1
            replace hI := hI.2
            have f13 := hide hI
            clear hI
            obtain rfl := f4.out (hD.on 4 (by kernel_rfl))
            obtain rfl := f5.out (hD.on 5 (by kernel_rfl))
            try simp only [puts, Act.put, List.setIfInBounds_toArray, List.set_cons_zero, List.set_cons_succ]
            try go_simp
            exact hK.out _ _ _ (by simp only [puts, Act.put, List.setIfInBounds_toArray, List.set_cons_zero, List.set_cons_succ] <;> rfl) ⟨hG, (fun h => f0.out h), (fun h => f1.out h), (fun h => f2.out h), (fun h => f3.out h), (fun h => f4.out h), (fun h => f5.out h), (fun _ => rfl), (fun h => f7.out h), (fun h => f8.out h), (fun h => f9.out h), (fun h => f10.out h), (fun h => f11.out h), (fun h => f12.out h), (fun h => f13.out h)⟩
          · intro L vs W hlen hL hD hI K hK
            obtain ⟨x0, x1, x2, x3, x4, x5, x6, x7, x8, x9, x10, x11, x12, x13, rfl⟩ := len14 hlen
            have hG := hI.1
            replace hI := hI.2
            have f0 := hide hI.1
            replace hI := hI.2
            have f1 := hide hI.1
            replace hI := hI.2
            have f2 := hide hI.1
            replace hI := hI.2
            have f3 := hide hI.1
            replace hI := hI.2
            have f4 := hide hI.1
            replace hI := hI.2
            have f5 := hide hI.1
            replace hI := hI.2
            have f6 := hide hI.1
            replace hI := hI.2
            have f7 := hide hI.1
            replace hI := hI.2
            have f8 := hide hI.1
            replace hI := hI.2
            have f9 := hide hI.1
            replace hI := hI.2
            have f10 := hide hI.1
            replace hI := hI.2
            have f11 := hide hI.1
            replace hI := hI.2
            have f12 := hide hI.1
            replace hI := hI.2
            have f13 := hide hI
            clear hI
            obtain rfl := f6.out (hD.on 6 (by kernel_rfl))
            try simp only [puts, Act.put, List.setIfInBounds_toArray, List.set_cons_zero, List.set_cons_succ]
            try go_simp
            exact hK.out _ _ _ (by simp only [puts, Act.put, List.setIfInBounds_toArray, List.set_cons_zero, List.set_cons_succ] <;> rfl) ⟨hG, (fun h => f0.out h), (fun h => f1.out h), (fun h => f2.out h), (fun h => f3.out h), (fun h => f4.out h), (fun h => f5.out h), (fun h => f6.out h), (fun _ => rfl), (fun h => f8.out h), (fun h => f9.out h), (fun h => f10.out h), (fun h => f11.out h), (fun h => f12.out h), (fun h => f13.out h)⟩
          · intro L vs W hlen hL hD hI K hK
            obtain ⟨x0, x1, x2, x3, x4, x5, x6, x7, x8, x9, x10, x11, x12, x13, rfl⟩ := len14 hlen
            have hG := hI.1
            replace hI := hI.2
            have f0 := hide hI.1
            replace hI := hI.2
            have f1 := hide hI.1
            replace hI := hI.2
            have f2 := hide hI.1
            replace hI := hI.2
            have f3 := hide hI.1
            replace hI := hI.2
            have f4 := hide hI.1
            replace hI := hI.2
            have f5 := hide hI.1
            replace hI := hI.2
            have f6 := hide hI.1
            replace hI := hI.2
            have f7 := hide hI.1
            replace hI := hI.2
            have f8 := hide hI.1
            replace hI := hI.2
            have f9 := hide hI.1
            replace hI := hI.2
            have f10 := hide hI.1
            replace hI := hI.2
            have f11 := hide hI.1
            replace hI := hI.2
            have f12 := hide hI.1
            replace hI := hI.2
            have f13 := hide hI
            clear hI
            obtain rfl := f7.out (hD.on 7 (by kernel_rfl))
            try simp only [puts, Act.put, List.setIfInBounds_toArray, List.set_cons_zero, List.set_cons_succ]
            have hb0 : Below V1.heap.size V1 W := hG.1 (Bool.eq_false_iff.2 (fun h => absurd ((f13.out h).1.2.2.1.symm.trans hL) (by decide)))
            have r0 := keep hb0 kc3
            go_simp
            exact hK.out _ _ _ (by simp only [puts, Act.put, List.setIfInBounds_toArray, List.set_cons_zero, List.set_cons_succ] <;> rfl) ⟨hG, (fun h => f0.out h), (fun h => f1.out h), (fun h => f2.out h), (fun h => f3.out h), (fun h => f4.out h), (fun h => f5.out h), (fun h => f6.out h), (fun h => f7.out h), (fun _ => rfl), (fun h => f9.out h), (fun h => f10.out h), (fun h => f11.out h), (fun h => f12.out h), (fun h => (fun h => ⟨⟨h.1.1, h.1.2.1, rfl, h.1.2.2.2⟩, h.2⟩) (f13.out h))⟩
          · intro L vs W hlen hL hD hI K hK
            obtain ⟨x0, x1, x2, x3, x4, x5, x6, x7, x8, x9, x10, x11, x12, x13, rfl⟩ := len14 hlen
            have hG := hI.1
            replace hI := hI.2
            have f0 := hide hI.1
            replace hI := hI.2
            have f1 := hide hI.1
            replace hI := hI.2
            have f2 := hide hI.1
            replace hI := hI.2
            have f3 := hide hI.1
            replace hI := hI.2
            have f4 := hide hI.1
            replace hI := hI.2
            have f5 := hide hI.1
            replace hI := hI.2
            have f6 := hide hI.1
            replace hI := hI.2
            have f7 := hide hI.1
            replace hI := hI.2
            have f8 := hide hI.1
            replace hI := hI.2
            have f9 := hide hI.1
            replace hI := hI.2
            have f10 := hide hI.1
            replace hI := hI.2
            have f11 := hide hI.1
            replace hI := hI.2
            have f12 := hide hI.1
            replace hI := hI.2
            have f13 := hide hI
            clear hI
            try simp only [puts, Act.put, List.setIfInBounds_toArray, List.set_cons_zero, List.set_cons_succ]
            try go_simp
            exact hK.out _ _ _ (by simp only [puts, Act.put, List.setIfInBounds_toArray, List.set_cons_zero, List.set_cons_succ] <;> rfl) ⟨hG, (fun h => f0.out h), (fun h => f1.out h), (fun h => f2.out h), (fun h => f3.out h), (fun h => f4.out h), (fun h => f5.out h), (fun h => f6.out h), (fun h => f7.out h), (fun h => f8.out h), (fun _ => rfl), (fun h => f10.out h), (fun h => f11.out h), (fun h => f12.out h), (fun h => f13.out h)⟩
          · intro L vs W hlen hL hD hI K hK
            obtain ⟨x0, x1, x2, x3, x4, x5, x6, x7, x8, x9, x10, x11, x12, x13, rfl⟩ := len14 hlen
            have hG := hI.1
            replace hI := hI.2
            have f0 := hide hI.1
            replace hI := hI.2
            have f1 := hide hI.1
            replace hI := hI.2
            have f2 := hide hI.1
            replace hI := hI.2
            have f3 := hide hI.1
            replace hI := hI.2
            have f4 := hide hI.1
            replace hI := hI.2
            have f5 := hide hI.1
            replace hI := hI.2
            have f6 := hide hI.1
            replace hI := hI.2
            have f7 := hide hI.1
            replace hI := hI.2
            have f8 := hide hI.1
            replace hI := hI.2
            have f9 := hide hI.1
            replace hI := hI.2
            have f10 := hide hI.1
            replace hI := hI.2
            have f11 := hide hI.1
            replace hI := hI.2
            have f12 := hide hI.1
            replace hI := hI.2
            have f13 := hide hI
            clear hI
            obtain rfl := f8.out (hD.on 8 (by kernel_rfl))
            obtain rfl := f9.out (hD.on 9 (by kernel_rfl))
            try simp only [puts, Act.put, List.setIfInBounds_toArray, List.set_cons_zero, List.set_cons_succ]
            have hb0 : Below V1.heap.size V1 W := hG.1 (Bool.eq_false_iff.2 (fun h => absurd ((f13.out h).1.2.2.2.symm.trans hL) (by decide)))
            try go_simp
            refine (HIN.out W hb0).mono ?_
            rintro e W' ⟨v10, rfl, hv10, hb⟩
            try go_simp
            exact hK.out _ _ _ (by simp only [puts, Act.put, List.setIfInBounds_toArray, List.set_cons_zero, List.set_cons_succ] <;> rfl) ⟨⟨fun _ => below2 hb0 hb, fun h => absurd ((f13.out h).1.2.2.2.symm.trans hL) (by decide)⟩, (fun h => f0.out h), (fun h => f1.out h), (fun h => f2.out h), (fun h => f3.out h), (fun h => f4.out h), (fun h => f5.out h), (fun h => f6.out h), (fun h => f7.out h), (fun h => f8.out h), (fun h => f9.out h), (fun _ => let ⟨a9, m9, e, _⟩ := id hv10; ⟨a9, m9, e, hv10⟩), (fun h => f11.out h), (fun h => f12.out h), (fun h => (fun h => absurd (h.1.2.2.2.symm.trans hL) (by decide)) (f13.out h))⟩
          · intro L vs W hlen hL hD hI K hK
            obtain ⟨x0, x1, x2, x3, x4, x5, x6, x7, x8, x9, x10, x11, x12, x13, rfl⟩ := len14 hlen
            have hG := hI.1
            replace hI := hI.2
            have f0 := hide hI.1
            replace hI := hI.2
            have f1 := hide hI.1
            replace hI := hI.2
            have f2 := hide hI.1
            replace hI := hI.2
            have f3 := hide hI.1
            replace hI := hI.2
            have f4 := hide hI.1
            replace hI := hI.2
            have f5 := hide hI.1
            replace hI := hI.2
            have f6 := hide hI.1
            replace hI := hI.2
            have f7 := hide hI.1
            replace hI := hI.2
            have f8 := hide hI.1
            replace hI := hI.2
            have f9 := hide hI.1
            replace hI := hI.2
            have f10 := hide hI.1
            replace hI := hI.2
            have f11 := hide hI.1
            replace hI := hI.2
            have f12 := hide hI.1
            replace hI := hI.2
            have f13 := hide hI
            clear hI
            obtain rfl := f1.out (hD.on 1 (by kernel_rfl))
            obtain rfl := f2.out (hD.on 2 (by kernel_rfl))
            try simp only [puts, Act.put, List.setIfInBounds_toArray, List.set_cons_zero, List.set_cons_succ]
            try go_simp
            exact hK.out _ _ _ (by simp only [puts, Act.put, List.setIfInBounds_toArray, List.set_cons_zero, List.set_cons_succ] <;> rfl) ⟨hG, (fun h => f0.out h), (fun h => f1.out h), (fun h => f2.out h), (fun h => f3.out h), (fun h => f4.out h), (fun h => f5.out h), (fun h => f6.out h), (fun h => f7.out h), (fun h => f8.out h), (fun h => f9.out h), (fun h => f10.out h), (fun _ => rfl), (fun h => f12.out h), (fun h => f13.out h)⟩
          · intro L vs W hlen hL hD hI K hK
            obtain ⟨x0, x1, x2, x3, x4, x5, x6, x7, x8, x9, x10, x11, x12, x13, rfl⟩ := len14 hlen
            have hG := hI.1
            replace hI := hI.2
            have f0 := hide hI.1
            replace hI := hI.2
            have f1 := hide hI.1
            replace hI := hI.2
            have f2 := hide hI.1
            replace hI := hI.2
            have f3 := hide hI.1
            replace hI := hI.2
            have f4 := hide hI.1
            replace hI := hI.2
            have f5 := hide hI.1
            replace hI := hI.2
            have f6 := hide hI.1
            replace hI := hI.2
            have f7 := hide hI.1
            replace hI := hI.2
            have f8 := hide hI.1
            replace hI := hI.2
            have f9 := hide hI.1
            replace hI := hI.2
            have f10 := hide hI.1
            replace hI := hI.2
            have f11 := hide hI.1
            replace hI := hI.2
            have f12 := hide hI.1
            replace hI := hI.2
            have f13 := hide hI
            clear hI
            obtain rfl := f11.out (hD.on 11 (by kernel_rfl))
            try simp only [puts, Act.put, List.setIfInBounds_toArray, List.set_cons_zero, List.set_cons_succ]
            try go_simp
            exact hK.out _ _ _ (by simp only [puts, Act.put, List.setIfInBounds_toArray, List.set_cons_zero, List.set_cons_succ] <;> rfl) ⟨hG, (fun h => f0.out h), (fun h => f1.out h), (fun h => f2.out h), (fun h => f3.out h), (fun h => f4.out h), (fun h => f5.out h), (fun h => f6.out h), (fun h => f7.out h), (fun h => f8.out h), (fun h => f9.out h), (fun h => f10.out h), (fun h => f11.out h), (fun _ => rfl), (fun h => f13.out h)⟩
          · intro L vs W hlen hL hD hI K hK
            obtain ⟨x0, x1, x2, x3, x4, x5, x6, x7, x8, x9, x10, x11, x12, x13, rfl⟩ := len14 hlen
            have hG := hI.1
            replace hI := hI.2
            have f0 := hide hI.1
            replace hI := hI.2
            have f1 := hide hI.1
            replace hI := hI.2
            have f2 := hide hI.1
            replace hI := hI.2
            have f3 := hide hI.1
            replace hI := hI.2
            have f4 := hide hI.1
            replace hI := hI.2
            have f5 := hide hI.1
            replace hI := hI.2
            have f6 := hide hI.1
            replace hI := hI.2
            have f7 := hide hI.1
            replace hI := hI.2
            have f8 := hide hI.1
            replace hI := hI.2
            have f9 := hide hI.1
            replace hI := hI.2
            have f10 := hide hI.1
            replace hI := hI.2
            have f11 := hide hI.1
            replace hI := hI.2
            have f12 := hide hI.1
            replace hI := hI.2
            have f13 := hide hI
            clear hI
            have g10 := f10.out (hD.on 10 (by kernel_rfl))
            obtain rfl := f12.out (hD.on 12 (by kernel_rfl))
            obtain rfl := f1.out (hD.on 1 (by kernel_rfl))
            obtain rfl := f4.out (hD.on 4 (by kernel_rfl))
            obtain rfl := f8.out (hD.on 8 (by kernel_rfl))
            try simp only [puts, Act.put, List.setIfInBounds_toArray, List.set_cons_zero, List.set_cons_succ]
            obtain ⟨a9, m9, rfl, hv9⟩ := g10
            have hst : L 13 = false := hL
            have hb0 := hG.1 hst
            have z0 := frz W hb0
            have z1 := keep hb0 kc3
            go_simp
            have hb : True := trivial
            exact hK.out _ undef _ (by simp only [puts, Act.put, List.setIfInBounds_toArray, List.set_cons_zero, List.set_cons_succ] <;> rfl) ⟨⟨fun h => (by cases h), fun _ => ⟨W, hb0, hv9, rfl⟩⟩, (fun h => f0.out h), (fun h => f1.out h), (fun h => f2.out h), (fun h => f3.out h), (fun h => f4.out h), (fun h => f5.out h), (fun h => f6.out h), (fun h => f7.out h), (fun h => f8.out h), (fun h => f9.out h), (fun h => (fun h => let ⟨a8, m8, e8, h8⟩ := h; ⟨a8, m8, e8, ints_setS z1 _ h8⟩) (f10.out h)), (fun h => f11.out h), (fun h => f12.out h), (fun _ => ⟨⟨hD.on 1 (by kernel_rfl), hD.on 4 (by kernel_rfl), hD.on 8 (by kernel_rfl), hD.on 10 (by kernel_rfl)⟩, trivial⟩)⟩
        intro L vs W hlen hall hI
        obtain ⟨x0, x1, x2, x3, x4, x5, x6, x7, x8, x9, x10, x11, x12, x13, rfl⟩ := len14 hlen
        have hG := hI.1
        replace hI := hI.2
        have f0 := hide hI.1
        replace hI := hI.2
        have f1 := hide hI.1
        replace hI := hI.2
        have f2 := hide hI.1
        replace hI := hI.2
        have f3 := hide hI.1
        replace hI := hI.2
        have f4 := hide hI.1
        replace hI := hI.2
        have f5 := hide hI.1
        replace hI := hI.2
        have f6 := hide hI.1
        replace hI := hI.2
        have f7 := hide hI.1
        replace hI := hI.2
        have f8 := hide hI.1
        replace hI := hI.2
        have f9 := hide hI.1
        replace hI := hI.2
        have f10 := hide hI.1
        replace hI := hI.2
        have f11 := hide hI.1
        replace hI := hI.2
        have f12 := hide hI.1
        replace hI := hI.2
        have f13 := hide hI
        clear hI
        obtain rfl := f0.out (hall 0 (by decide))
        obtain rfl := f1.out (hall 1 (by decide))
        obtain rfl := f2.out (hall 2 (by decide))
        obtain rfl := f3.out (hall 3 (by decide))
        obtain rfl := f4.out (hall 4 (by decide))
        obtain rfl := f5.out (hall 5 (by decide))
        obtain rfl := f6.out (hall 6 (by decide))
        obtain rfl := f7.out (hall 7 (by decide))
        obtain rfl := f8.out (hall 8 (by decide))
        obtain rfl := f9.out (hall 9 (by decide))
        have g10 := f10.out (hall 10 (by decide))
        obtain rfl := f11.out (hall 11 (by decide))
        obtain rfl := f12.out (hall 12 (by decide))
        have g13 := f13.out (hall 13 (by decide))
        have hal := hide hall
        clear hall f0 f1 f2 f3 f4 f5 f6 f7 f8 f9 f10 f11 f12 f13
        try simp only [puts, Act.put, List.setIfInBounds_toArray, List.set_cons_zero, List.set_cons_succ]
        obtain ⟨W0, hb0, hv0, rfl⟩ := hG.2 (hal.out 13 (by decide))
        have hcd : CodeIn (W0.setCell ⟨gw, k * 6 + 3, none⟩ x10).cell? _ _ _ _ := code_put (HCO2.out.later (below2 HVB.out hb0)) HKN.out true hv0
        rw [HYY.out] at hcd
        have hM : CodeIn (W0.setCell ⟨gw, k * 6 + 3, none⟩ x10).cell? (.slice (some ⟨gw, 0, none⟩) c.clauses.length lcn2) (.slice lra2 c.repeals.length lrn2) (.slice lfa2 c.facts.length lfn2) ⟨c.clauses.set k (moreX y true m), c.repeals, c.facts⟩ := by rw [HMX.out]; exact hcd
        have HM := hide hM
        have bWW := (bW.later hb0).other (show w9.heap.size ≠ gw by omega) (k * 6 + 3) x10
        have bQW := (((HQ8.out.later HB9.out).later HVB.out).later hb0).other (show w3.heap.size ≠ gw by omega) (k * 6 + 3) x10
        have HWW := hide ((below2 (below2 (below2 HW8.out HB9.out) HVB.out) hb0).setCell (p := ⟨gw, k * 6 + 3, none⟩) (show w.heap.size ≤ gw by omega) x10)
        have l0 := bWW.cell 0 rfl
        have l1 := bWW.cell 1 rfl
        have l2 := bWW.cell 2 rfl
        have q0 := bQW.cell 0 rfl
        have q1 := bQW.cell 1 rfl
        have q2 := bQW.cell 2 rfl
        have q3 := bQW.cell 3 rfl
        clear hG hal hcd hM hv0 hb0 bW frz HIN
        go_wp2_with fail
        refine (decide_ok ⟨c.clauses.set k (moreX y true m), c.repeals, c.facts⟩ q _ _ _ _ HM.out HM2.out.1 HQ.out).mono ?_
        rintro e w10 ⟨la4, ln4, rfl, -, hb10⟩
        rw [HM2.out.2]
        generalize (decideP ⟨c.clauses.set k (moreX y true m), c.repeals, c.facts⟩ q).length = dl4
        have hwf := below2 HWW.out hb10
        go_wp2_with fail
        go_ret
        exact ⟨rfl, hwf⟩
end Go.Proofs.Ytdjldidfnddpmaa

