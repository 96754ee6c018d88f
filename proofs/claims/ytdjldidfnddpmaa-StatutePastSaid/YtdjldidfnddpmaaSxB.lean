/- The walk of the law's sane: it returns true. No condition. -/
import Derived.Test.YtdjldidfnddpmaaSxA
namespace Go.Proofs.Ytdjldidfnddpmaa
open Go.RowKit
set_option maxRecDepth 100000 in
set_option maxHeartbeats 4000000 in
theorem sane31_any (w : World) : Calls Try.prog 8 #[] w (Ret (.bool true) w) := by
  have lC : exC.clauses.length = 2 := rfl
  have lR : exC.repeals.length = 0 := rfl
  have lF : exC.facts.length = 2 := rfl
  have LC := hide lC
  have LR := hide lR
  have LF := hide lF
  clear lC lR lF
  go_enter Try.func8, Try.ntmps8
  go_wp2_with fail
  refine (example31_any _).mono ?_
  rintro e w1 ⟨ca, cn, ra, rn, fa, fn, rfl, hC, hw⟩
  rw [LC.out, LR.out, LF.out] at hC ⊢
  go_wp2_with fail
  generalize hX1 : World.alloc w1 _ = X1
  have zX1 : X1.heap.size = w1.heap.size + 1 := by rw [← hX1]; simp
  have bX1 : Below w1.heap.size w1 X1 := by rw [← hX1]; exact bal w1 _
  have bE_1 : Blk X1 (w1.heap.size) [.slice ca 2 cn, .slice ra 0 rn, .slice fa 2 fn] 34 := by rw [← hX1]; exact Blk.newA w1 _ (by first | rfl | simp)
  generalize hX2 : World.alloc X1 _ = X2
  have zX2 : X2.heap.size = w1.heap.size + 1 + 1 := by rw [← hX2]; simp [zX1]
  have bX2 : Below X1.heap.size X1 X2 := by rw [← hX2]; exact bal X1 _
  have bQ_2 : Blk X2 (w1.heap.size + 1) [.int .i64 7, .int .i64 3, .int .i64 400, .int .i64 400] 37 := by rw [← hX2, ← zX1]; exact Blk.newA X1 _ (by first | rfl | simp)
  have bE_2 := bE_1.later bX2
  generalize hX3 : World.alloc X2 _ = X3
  have zX3 : X3.heap.size = w1.heap.size + 1 + 1 + 1 := by rw [← hX3]; simp [zX2]
  have bX3 : Below X2.heap.size X2 X3 := by rw [← hX3]; exact bal X2 _
  have bL : Blk X3 (w1.heap.size + 1 + 1) [.int .i64 7, .int .i64 3, .int .i64 700, .int .i64 650] 37 := by rw [← hX3, ← zX2]; exact Blk.newA X2 _ (by first | rfl | simp)
  have bE := bE_2.later bX3
  have bQ := bQ_2.later bX3
  have Xb := below2 (below2 (bX1) bX2) bX3
  have Xz := zX3
  clear hX1 zX1 bX1 hX2 zX2 bX2 hX3 zX3 bX3 bE_1 bE_2 bQ_2
  replace hC := hC.below Xb
  replace hw := below2 hw Xb
  have e0 := bE.cell 0 rfl
  have e1 := bE.cell 1 rfl
  have e2 := bE.cell 2 rfl
  have q0 := bQ.cell 0 rfl
  have q1 := bQ.cell 1 rfl
  have q2 := bQ.cell 2 rfl
  have q3 := bQ.cell 3 rfl
  have l0 := bL.cell 0 rfl
  have l1 := bL.cell 1 rfl
  have l2 := bL.cell 2 rfl
  have l3 := bL.cell 3 rfl
  clear Xb Xz
  refine (decide_at ans1 _ _ _ _ hC).mono ?_
  rintro e w2 ⟨p1, m1, rfl, hp1, hb⟩
  replace hp1 := hp1.at
  replace bE := bE.later hb
  replace bQ := bQ.later hb
  replace bL := bL.later hb
  replace hC := hC.below hb
  replace hw := below2 hw hb
  replace e0 := bE.cell 0 rfl
  replace e1 := bE.cell 1 rfl
  replace e2 := bE.cell 2 rfl
  replace q0 := bQ.cell 0 rfl
  replace q1 := bQ.cell 1 rfl
  replace q2 := bQ.cell 2 rfl
  replace q3 := bQ.cell 3 rfl
  replace l0 := bL.cell 0 rfl
  replace l1 := bL.cell 1 rfl
  replace l2 := bL.cell 2 rfl
  replace l3 := bL.cell 3 rfl
  clear hb
  go_wp2_with fail
  refine (decide_at ans2 _ _ _ _ hC).mono ?_
  rintro e w3 ⟨p2, m2, rfl, hp2, hb⟩
  replace hp2 := hp2.at
  replace hp1 := hp1.below hb
  replace bE := bE.later hb
  replace bQ := bQ.later hb
  replace bL := bL.later hb
  replace hC := hC.below hb
  replace hw := below2 hw hb
  replace e0 := bE.cell 0 rfl
  replace e1 := bE.cell 1 rfl
  replace e2 := bE.cell 2 rfl
  replace q0 := bQ.cell 0 rfl
  replace q1 := bQ.cell 1 rfl
  replace q2 := bQ.cell 2 rfl
  replace q3 := bQ.cell 3 rfl
  replace l0 := bL.cell 0 rfl
  replace l1 := bL.cell 1 rfl
  replace l2 := bL.cell 2 rfl
  replace l3 := bL.cell 3 rfl
  clear hb
  go_wp2_with fail
  refine (decide_at2 ans3 _ _ _ _ hC).mono ?_
  rintro e w4 ⟨p3, k3, m3, rfl, hb⟩
  replace hp1 := hp1.below hb
  replace hp2 := hp2.below hb
  replace bE := bE.later hb
  replace bQ := bQ.later hb
  replace bL := bL.later hb
  replace hC := hC.below hb
  replace hw := below2 hw hb
  replace e0 := bE.cell 0 rfl
  replace e1 := bE.cell 1 rfl
  replace e2 := bE.cell 2 rfl
  replace q0 := bQ.cell 0 rfl
  replace q1 := bQ.cell 1 rfl
  replace q2 := bQ.cell 2 rfl
  replace q3 := bQ.cell 3 rfl
  replace l0 := bL.cell 0 rfl
  replace l1 := bL.cell 1 rfl
  replace l2 := bL.cell 2 rfl
  replace l3 := bL.cell 3 rfl
  clear hb
  go_wp2_with fail
  refine (decide_at ans4 _ _ _ _ hC).mono ?_
  rintro e w5 ⟨p4, m4, rfl, hp4, hb⟩
  replace hp4 := hp4.at
  replace hp1 := hp1.below hb
  replace hp2 := hp2.below hb
  replace bE := bE.later hb
  replace bQ := bQ.later hb
  replace bL := bL.later hb
  replace hC := hC.below hb
  replace hw := below2 hw hb
  replace e0 := bE.cell 0 rfl
  replace e1 := bE.cell 1 rfl
  replace e2 := bE.cell 2 rfl
  replace q0 := bQ.cell 0 rfl
  replace q1 := bQ.cell 1 rfl
  replace q2 := bQ.cell 2 rfl
  replace q3 := bQ.cell 3 rfl
  replace l0 := bL.cell 0 rfl
  replace l1 := bL.cell 1 rfl
  replace l2 := bL.cell 2 rfl
  replace l3 := bL.cell 3 rfl
  clear hb
  go_wp2_with fail
  refine (decide_at2 ans5 _ _ _ _ hC).mono ?_
  rintro e w6 ⟨p5, k5, m5, rfl, hb⟩
  replace hp1 := hp1.below hb
  replace hp2 := hp2.below hb
  replace hp4 := hp4.below hb
  replace bE := bE.later hb
  replace bQ := bQ.later hb
  replace bL := bL.later hb
  replace hC := hC.below hb
  replace hw := below2 hw hb
  replace e0 := bE.cell 0 rfl
  replace e1 := bE.cell 1 rfl
  replace e2 := bE.cell 2 rfl
  replace q0 := bQ.cell 0 rfl
  replace q1 := bQ.cell 1 rfl
  replace q2 := bQ.cell 2 rfl
  replace q3 := bQ.cell 3 rfl
  replace l0 := bL.cell 0 rfl
  replace l1 := bL.cell 1 rfl
  replace l2 := bL.cell 2 rfl
  replace l3 := bL.cell 3 rfl
  clear hb
  have qa := fun o1 o2 => keep (below2 (bal w6 o1) (bal _ o2)) q0
  have qb := fun o1 o2 => keep (below2 (bal w6 o1) (bal _ o2)) q1
  have qc := fun o1 o2 => keep (below2 (bal w6 o1) (bal _ o2)) q2
  have qd := fun o1 o2 => keep (below2 (bal w6 o1) (bal _ o2)) q3
  go_wp2_with fail
  generalize hY1 : World.alloc w6 _ = Y1
  have zY1 : Y1.heap.size = w6.heap.size + 1 := by rw [← hY1]; simp
  have bY1 : Below w6.heap.size w6 Y1 := by rw [← hY1]; exact bal w6 _
  have bP_1 : Blk Y1 (w6.heap.size) [.slice ca 2 cn, .slice (some ⟨w6.heap.size + 1, 0, none⟩) 1 1, .slice fa 2 fn] 34 := by rw [← hY1]; exact Blk.newA w6 _ (by first | rfl | simp)
  generalize hY2 : World.alloc Y1 _ = Y2
  have zY2 : Y2.heap.size = w6.heap.size + 1 + 1 := by rw [← hY2]; simp [zY1]
  have bY2 : Below Y1.heap.size Y1 Y2 := by rw [← hY2]; exact bal Y1 _
  have bZ : Blk Y2 (w6.heap.size + 1) [.int .i64 0, .int .i64 350, .int .i64 300] 55 := by rw [← hY2, ← zY1]; exact Blk.newA Y1 _ (by first | rfl | simp)
  have bP := bP_1.later bY2
  have Yb := below2 (bY1) bY2
  have Yz := zY2
  clear hY1 zY1 bY1 hY2 zY2 bY2 bP_1
  clear qa qb qc qd
  replace hp1 := hp1.below Yb
  replace hp2 := hp2.below Yb
  replace hp4 := hp4.below Yb
  replace bE := bE.later Yb
  replace bQ := bQ.later Yb
  replace bL := bL.later Yb
  replace hC := hC.below Yb
  replace hw := below2 hw Yb
  replace e0 := bE.cell 0 rfl
  replace e1 := bE.cell 1 rfl
  replace e2 := bE.cell 2 rfl
  replace q0 := bQ.cell 0 rfl
  replace q1 := bQ.cell 1 rfl
  replace q2 := bQ.cell 2 rfl
  replace q3 := bQ.cell 3 rfl
  replace l0 := bL.cell 0 rfl
  replace l1 := bL.cell 1 rfl
  replace l2 := bL.cell 2 rfl
  replace l3 := bL.cell 3 rfl
  have hR : CodeIn Y2.cell? (.slice ca 2 cn) (.slice (some ⟨w6.heap.size + 1, 0, none⟩) 1 1) (.slice fa 2 fn) exR := ⟨hC.cl, rec_blk (f := repealC) (d := repeal0) (k := 3) (fun _ => rfl) (l := [⟨0, 350, 300⟩]) bZ (by decide), hC.fa⟩
  clear Yb Yz bZ
  refine (decide_at2 ans6 _ _ _ _ hR).mono ?_
  rintro e w7 ⟨p6, k6, m6, rfl, hb⟩
  replace hp1 := hp1.below hb
  replace hp2 := hp2.below hb
  replace hp4 := hp4.below hb
  replace bE := bE.later hb
  replace bQ := bQ.later hb
  replace bL := bL.later hb
  replace hC := hC.below hb
  replace hw := below2 hw hb
  replace e0 := bE.cell 0 rfl
  replace e1 := bE.cell 1 rfl
  replace e2 := bE.cell 2 rfl
  replace q0 := bQ.cell 0 rfl
  replace q1 := bQ.cell 1 rfl
  replace q2 := bQ.cell 2 rfl
  replace q3 := bQ.cell 3 rfl
  replace l0 := bL.cell 0 rfl
  replace l1 := bL.cell 1 rfl
  replace l2 := bL.cell 2 rfl
  replace l3 := bL.cell 3 rfl
  clear hb hR bP
  go_wp2_with fail
  refine (usesS_any exC ⟨7, 3, 700, 650⟩ _ _ _ _ second31 _ hC hp2).mono ?_
  rw [use1.1, use1.2.1, use1.2.2]
  rintro e w8 ⟨u1, u2, rfl, hu1, hu2, hb⟩
  replace hu1 : IntsAt w8 u1 [1] := hu1.at
  replace hu2 : IntsAt w8 u2 [0, 1] := hu2.at
  replace hp1 := hp1.below hb
  replace hp2 := hp2.below hb
  replace hp4 := hp4.below hb
  replace bE := bE.later hb
  replace bQ := bQ.later hb
  replace bL := bL.later hb
  replace hC := hC.below hb
  replace hw := below2 hw hb
  replace e0 := bE.cell 0 rfl
  replace e1 := bE.cell 1 rfl
  replace e2 := bE.cell 2 rfl
  replace q0 := bQ.cell 0 rfl
  replace q1 := bQ.cell 1 rfl
  replace q2 := bQ.cell 2 rfl
  replace q3 := bQ.cell 3 rfl
  replace l0 := bL.cell 0 rfl
  replace l1 := bL.cell 1 rfl
  replace l2 := bL.cell 2 rfl
  replace l3 := bL.cell 3 rfl
  clear hb
  obtain ⟨u1a, u1n, rfl, -⟩ := id hu1
  obtain ⟨u2a, u2n, rfl, -⟩ := id hu2
  go_wp2_with fail
  refine (appliesS_any exC ⟨7, 3, 400, 400⟩ _ _ _ _ hC).mono ?_
  rw [app1.1, app1.2.1, app1.2.2]
  rintro e w9 ⟨v1, v2, rfl, hv1, hv2, hb⟩
  replace hv1 : IntsAt w9 v1 [0] := hv1.at
  replace hv2 : IntsAt w9 v2 [0, 1] := hv2.at
  replace hu1 := hu1.below hb
  replace hu2 := hu2.below hb
  replace hp1 := hp1.below hb
  replace hp2 := hp2.below hb
  replace hp4 := hp4.below hb
  replace bE := bE.later hb
  replace bQ := bQ.later hb
  replace bL := bL.later hb
  replace hC := hC.below hb
  replace hw := below2 hw hb
  replace e0 := bE.cell 0 rfl
  replace e1 := bE.cell 1 rfl
  replace e2 := bE.cell 2 rfl
  replace q0 := bQ.cell 0 rfl
  replace q1 := bQ.cell 1 rfl
  replace q2 := bQ.cell 2 rfl
  replace q3 := bQ.cell 3 rfl
  replace l0 := bL.cell 0 rfl
  replace l1 := bL.cell 1 rfl
  replace l2 := bL.cell 2 rfl
  replace l3 := bL.cell 3 rfl
  clear hb
  obtain ⟨v1a, v1n, rfl, -⟩ := id hv1
  obtain ⟨v2a, v2n, rfl, -⟩ := id hv2
  go_wp2_with fail
  generalize hZ1 : World.alloc w9 _ = Z1
  have zZ1 : Z1.heap.size = w9.heap.size + 1 := by rw [← hZ1]; simp
  have bZ1 : Below w9.heap.size w9 Z1 := by rw [← hZ1]; exact bal w9 _
  have bF_1 : Blk Z1 (w9.heap.size) [.int .i64 0, .bool true, .int .i64 0, .int .i64 (-1), .int .i64 2, .bool false, .int .i64 (-1), .int .i64 (-1), .int .i64 3, .bool true, .int .i64 (-1), .int .i64 0] 63 := by rw [← hZ1]; exact Blk.newA w9 _ (by first | rfl | simp)
  generalize hZ2 : World.alloc Z1 _ = Z2
  have zZ2 : Z2.heap.size = w9.heap.size + 1 + 1 := by rw [← hZ2]; simp [zZ1]
  have bZ2 : Below Z1.heap.size Z1 Z2 := by rw [← hZ2]; exact bal Z1 _
  have bS : Blk Z2 (w9.heap.size + 1) [.int .i64 1, .bool false, .int .i64 (-1), .int .i64 (-1), .int .i64 2, .bool true, .int .i64 1, .int .i64 (-1), .int .i64 3, .bool false, .int .i64 (-1), .int .i64 (-1)] 63 := by rw [← hZ2, ← zZ1]; exact Blk.newA Z1 _ (by first | rfl | simp)
  have bF := bF_1.later bZ2
  have Zb := below2 (bZ1) bZ2
  have Zz := zZ2
  clear hZ1 zZ1 bZ1 hZ2 zZ2 bZ2 bF_1
  replace hu1 := hu1.below Zb
  replace hu2 := hu2.below Zb
  replace hv1 := hv1.below Zb
  replace hv2 := hv2.below Zb
  replace hp1 := hp1.below Zb
  replace hp2 := hp2.below Zb
  replace hp4 := hp4.below Zb
  have hf : FindsIn Z2.cell? (.slice (some ⟨w9.heap.size, 0, none⟩) 3 3) first31 := rec_blk (f := findC) (d := find0) (k := 4) (fun _ => rfl) (l := first31) bF (by decide)
  have hs : FindsIn Z2.cell? (.slice (some ⟨w9.heap.size + 1, 0, none⟩) 3 3) second31 := rec_blk (f := findC) (d := find0) (k := 4) (fun _ => rfl) (l := second31) bS (by decide)
  replace bE := bE.later Zb
  replace bQ := bQ.later Zb
  replace bL := bL.later Zb
  replace hC := hC.below Zb
  replace hw := below2 hw Zb
  replace e0 := bE.cell 0 rfl
  replace e1 := bE.cell 1 rfl
  replace e2 := bE.cell 2 rfl
  replace q0 := bQ.cell 0 rfl
  replace q1 := bQ.cell 1 rfl
  replace q2 := bQ.cell 2 rfl
  replace q3 := bQ.cell 3 rfl
  replace l0 := bL.cell 0 rfl
  replace l1 := bL.cell 1 rfl
  replace l2 := bL.cell 2 rfl
  replace l3 := bL.cell 3 rfl
  clear Zb Zz bF bS
  refine (same_any first31 _ _ _ hp1 hf).mono ?_
  rintro e wa ⟨rfl, hb⟩
  replace hu1 := hu1.below hb
  replace hu2 := hu2.below hb
  replace hv1 := hv1.below hb
  replace hv2 := hv2.below hb
  replace hp1 := hp1.below hb
  replace hp2 := hp2.below hb
  replace hp4 := hp4.below hb
  replace hf := hf.below hb
  replace hs := hs.below hb
  replace bE := bE.later hb
  replace bQ := bQ.later hb
  replace bL := bL.later hb
  replace hC := hC.below hb
  replace hw := below2 hw hb
  replace e0 := bE.cell 0 rfl
  replace e1 := bE.cell 1 rfl
  replace e2 := bE.cell 2 rfl
  replace q0 := bQ.cell 0 rfl
  replace q1 := bQ.cell 1 rfl
  replace q2 := bQ.cell 2 rfl
  replace q3 := bQ.cell 3 rfl
  replace l0 := bL.cell 0 rfl
  replace l1 := bL.cell 1 rfl
  replace l2 := bL.cell 2 rfl
  replace l3 := bL.cell 3 rfl
  clear hb
  go_wp2_with fail
  refine (same_any second31 _ _ _ hp2 hs).mono ?_
  rintro e wb ⟨rfl, hb⟩
  replace hu1 := hu1.below hb
  replace hu2 := hu2.below hb
  replace hv1 := hv1.below hb
  replace hv2 := hv2.below hb
  replace hp1 := hp1.below hb
  replace hp2 := hp2.below hb
  replace hp4 := hp4.below hb
  replace hf := hf.below hb
  replace hs := hs.below hb
  replace bE := bE.later hb
  replace bQ := bQ.later hb
  replace bL := bL.later hb
  replace hC := hC.below hb
  replace hw := below2 hw hb
  replace e0 := bE.cell 0 rfl
  replace e1 := bE.cell 1 rfl
  replace e2 := bE.cell 2 rfl
  replace q0 := bQ.cell 0 rfl
  replace q1 := bQ.cell 1 rfl
  replace q2 := bQ.cell 2 rfl
  replace q3 := bQ.cell 3 rfl
  replace l0 := bL.cell 0 rfl
  replace l1 := bL.cell 1 rfl
  replace l2 := bL.cell 2 rfl
  replace l3 := bL.cell 3 rfl
  clear hb
  go_wp2_with fail
  generalize hV1 : World.alloc wb _ = V1
  have zV1 : V1.heap.size = wb.heap.size + 1 := by rw [← hV1]; simp
  have bV1 : Below wb.heap.size wb V1 := by rw [← hV1]; exact bal wb _
  have bT : Blk V1 (wb.heap.size) [.int .i64 3, .bool false, .int .i64 (-1), .int .i64 (-1)] 63 := by rw [← hV1]; exact Blk.newA wb _ (by first | rfl | simp)
  have Vb := bV1
  have Vz := zV1
  clear hV1 zV1 bV1
  have ht : FindsIn V1.cell? (.slice (some ⟨wb.heap.size, 0, none⟩) 1 1) last31 := rec_blk (f := findC) (d := find0) (k := 4) (fun _ => rfl) (l := last31) bT (by decide)
  replace hu1 := hu1.below Vb
  replace hu2 := hu2.below Vb
  replace hv1 := hv1.below Vb
  replace hv2 := hv2.below Vb
  replace hp1 := hp1.below Vb
  replace hp2 := hp2.below Vb
  replace hp4 := hp4.below Vb
  replace hf := hf.below Vb
  replace hs := hs.below Vb
  replace bE := bE.later Vb
  replace bQ := bQ.later Vb
  replace bL := bL.later Vb
  replace hC := hC.below Vb
  replace hw := below2 hw Vb
  replace e0 := bE.cell 0 rfl
  replace e1 := bE.cell 1 rfl
  replace e2 := bE.cell 2 rfl
  replace q0 := bQ.cell 0 rfl
  replace q1 := bQ.cell 1 rfl
  replace q2 := bQ.cell 2 rfl
  replace q3 := bQ.cell 3 rfl
  replace l0 := bL.cell 0 rfl
  replace l1 := bL.cell 1 rfl
  replace l2 := bL.cell 2 rfl
  replace l3 := bL.cell 3 rfl
  clear Vb
  clear Vz bT
  refine (same_any last31 _ _ _ hp4 ht).mono ?_
  rintro e wc ⟨rfl, hb⟩
  clear ht
  replace hu1 := hu1.below hb
  replace hu2 := hu2.below hb
  replace hv1 := hv1.below hb
  replace hv2 := hv2.below hb
  replace hp1 := hp1.below hb
  replace hp2 := hp2.below hb
  replace hp4 := hp4.below hb
  replace hf := hf.below hb
  replace hs := hs.below hb
  replace bE := bE.later hb
  replace bQ := bQ.later hb
  replace bL := bL.later hb
  replace hC := hC.below hb
  replace hw := below2 hw hb
  replace e0 := bE.cell 0 rfl
  replace e1 := bE.cell 1 rfl
  replace e2 := bE.cell 2 rfl
  replace q0 := bQ.cell 0 rfl
  replace q1 := bQ.cell 1 rfl
  replace q2 := bQ.cell 2 rfl
  replace q3 := bQ.cell 3 rfl
  replace l0 := bL.cell 0 rfl
  replace l1 := bL.cell 1 rfl
  replace l2 := bL.cell 2 rfl
  replace l3 := bL.cell 3 rfl
  clear hb
  go_wp2_with fail
  refine (checkS_any exC ⟨7, 3, 400, 400⟩ _ _ _ _ true first31 _ hC hf).mono ?_
  rw [chk1.1]
  rintro e wd ⟨rfl, hb⟩
  replace hu1 := hu1.below hb
  replace hu2 := hu2.below hb
  replace hv1 := hv1.below hb
  replace hv2 := hv2.below hb
  replace hp1 := hp1.below hb
  replace hp2 := hp2.below hb
  replace hp4 := hp4.below hb
  replace hf := hf.below hb
  replace hs := hs.below hb
  replace bE := bE.later hb
  replace bQ := bQ.later hb
  replace bL := bL.later hb
  replace hC := hC.below hb
  replace hw := below2 hw hb
  replace e0 := bE.cell 0 rfl
  replace e1 := bE.cell 1 rfl
  replace e2 := bE.cell 2 rfl
  replace q0 := bQ.cell 0 rfl
  replace q1 := bQ.cell 1 rfl
  replace q2 := bQ.cell 2 rfl
  replace q3 := bQ.cell 3 rfl
  replace l0 := bL.cell 0 rfl
  replace l1 := bL.cell 1 rfl
  replace l2 := bL.cell 2 rfl
  replace l3 := bL.cell 3 rfl
  clear hb
  go_wp2_with fail
  refine (checkS_any exC ⟨7, 3, 400, 400⟩ _ _ _ _ false first31 _ hC hf).mono ?_
  rw [chk1.2.1]
  rintro e we ⟨rfl, hb⟩
  replace hu1 := hu1.below hb
  replace hu2 := hu2.below hb
  replace hv1 := hv1.below hb
  replace hv2 := hv2.below hb
  replace hp1 := hp1.below hb
  replace hp2 := hp2.below hb
  replace hp4 := hp4.below hb
  replace hf := hf.below hb
  replace hs := hs.below hb
  replace bE := bE.later hb
  replace bQ := bQ.later hb
  replace bL := bL.later hb
  replace hC := hC.below hb
  replace hw := below2 hw hb
  replace e0 := bE.cell 0 rfl
  replace e1 := bE.cell 1 rfl
  replace e2 := bE.cell 2 rfl
  replace q0 := bQ.cell 0 rfl
  replace q1 := bQ.cell 1 rfl
  replace q2 := bQ.cell 2 rfl
  replace q3 := bQ.cell 3 rfl
  replace l0 := bL.cell 0 rfl
  replace l1 := bL.cell 1 rfl
  replace l2 := bL.cell 2 rfl
  replace l3 := bL.cell 3 rfl
  clear hb
  go_wp2_with fail
  refine (checkS_any exC ⟨7, 3, 700, 650⟩ _ _ _ _ true first31 _ hC hf).mono ?_
  rw [chk1.2.2.1]
  rintro e wf ⟨rfl, hb⟩
  replace hu1 := hu1.below hb
  replace hu2 := hu2.below hb
  replace hv1 := hv1.below hb
  replace hv2 := hv2.below hb
  replace hp1 := hp1.below hb
  replace hp2 := hp2.below hb
  replace hp4 := hp4.below hb
  replace hf := hf.below hb
  replace hs := hs.below hb
  replace bE := bE.later hb
  replace bQ := bQ.later hb
  replace bL := bL.later hb
  replace hC := hC.below hb
  replace hw := below2 hw hb
  replace e0 := bE.cell 0 rfl
  replace e1 := bE.cell 1 rfl
  replace e2 := bE.cell 2 rfl
  replace q0 := bQ.cell 0 rfl
  replace q1 := bQ.cell 1 rfl
  replace q2 := bQ.cell 2 rfl
  replace q3 := bQ.cell 3 rfl
  replace l0 := bL.cell 0 rfl
  replace l1 := bL.cell 1 rfl
  replace l2 := bL.cell 2 rfl
  replace l3 := bL.cell 3 rfl
  clear hb
  go_wp2_with fail
  refine (checkS_any exC ⟨7, 3, 700, 650⟩ _ _ _ _ false second31 _ hC hs).mono ?_
  rw [chk1.2.2.2]
  rintro e wg ⟨rfl, hb⟩
  replace hu1 := hu1.below hb
  replace hu2 := hu2.below hb
  replace hv1 := hv1.below hb
  replace hv2 := hv2.below hb
  replace hp1 := hp1.below hb
  replace hp2 := hp2.below hb
  replace hp4 := hp4.below hb
  replace hf := hf.below hb
  replace hs := hs.below hb
  replace bE := bE.later hb
  replace bQ := bQ.later hb
  replace bL := bL.later hb
  replace hC := hC.below hb
  replace hw := below2 hw hb
  replace e0 := bE.cell 0 rfl
  replace e1 := bE.cell 1 rfl
  replace e2 := bE.cell 2 rfl
  replace q0 := bQ.cell 0 rfl
  replace q1 := bQ.cell 1 rfl
  replace q2 := bQ.cell 2 rfl
  replace q3 := bQ.cell 3 rfl
  replace l0 := bL.cell 0 rfl
  replace l1 := bL.cell 1 rfl
  replace l2 := bL.cell 2 rfl
  replace l3 := bL.cell 3 rfl
  clear hb
  go_wp2_with fail
  generalize hV1 : World.alloc wg _ = V1
  have zV1 : V1.heap.size = wg.heap.size + 1 := by rw [← hV1]; simp
  have bV1 : Below wg.heap.size wg V1 := by rw [← hV1]; exact bal wg _
  have bT : Blk V1 (wg.heap.size) [.int .i64 1] 3 := by rw [← hV1]; exact Blk.newA wg _ (by first | rfl | simp)
  have Vb := bV1
  have Vz := zV1
  clear hV1 zV1 bV1
  have ht : IntsAt V1 (.slice (some ⟨wg.heap.size, 0, none⟩) 1 1) [1] := ints_blk (l := [1]) bT (by decide)
  replace hu1 := hu1.below Vb
  replace hu2 := hu2.below Vb
  replace hv1 := hv1.below Vb
  replace hv2 := hv2.below Vb
  replace hp1 := hp1.below Vb
  replace hp2 := hp2.below Vb
  replace hp4 := hp4.below Vb
  replace hf := hf.below Vb
  replace hs := hs.below Vb
  replace bE := bE.later Vb
  replace bQ := bQ.later Vb
  replace bL := bL.later Vb
  replace hC := hC.below Vb
  replace hw := below2 hw Vb
  replace e0 := bE.cell 0 rfl
  replace e1 := bE.cell 1 rfl
  replace e2 := bE.cell 2 rfl
  replace q0 := bQ.cell 0 rfl
  replace q1 := bQ.cell 1 rfl
  replace q2 := bQ.cell 2 rfl
  replace q3 := bQ.cell 3 rfl
  replace l0 := bL.cell 0 rfl
  replace l1 := bL.cell 1 rfl
  replace l2 := bL.cell 2 rfl
  replace l3 := bL.cell 3 rfl
  clear Vb
  clear Vz bT
  refine (ints_any [1] [1] _ _ _ hu1 ht).mono ?_
  rw [show intsB [1] [1] = true by decide]
  rintro e wh ⟨rfl, hb⟩
  clear ht
  replace hu1 := hu1.below hb
  replace hu2 := hu2.below hb
  replace hv1 := hv1.below hb
  replace hv2 := hv2.below hb
  replace hp1 := hp1.below hb
  replace hp2 := hp2.below hb
  replace hp4 := hp4.below hb
  replace hf := hf.below hb
  replace hs := hs.below hb
  replace bE := bE.later hb
  replace bQ := bQ.later hb
  replace bL := bL.later hb
  replace hC := hC.below hb
  replace hw := below2 hw hb
  replace e0 := bE.cell 0 rfl
  replace e1 := bE.cell 1 rfl
  replace e2 := bE.cell 2 rfl
  replace q0 := bQ.cell 0 rfl
  replace q1 := bQ.cell 1 rfl
  replace q2 := bQ.cell 2 rfl
  replace q3 := bQ.cell 3 rfl
  replace l0 := bL.cell 0 rfl
  replace l1 := bL.cell 1 rfl
  replace l2 := bL.cell 2 rfl
  replace l3 := bL.cell 3 rfl
  clear hb
  go_wp2_with fail
  generalize hV1 : World.alloc wh _ = V1
  have zV1 : V1.heap.size = wh.heap.size + 1 := by rw [← hV1]; simp
  have bV1 : Below wh.heap.size wh V1 := by rw [← hV1]; exact bal wh _
  have bT : Blk V1 (wh.heap.size) [.int .i64 0, .int .i64 1] 3 := by rw [← hV1]; exact Blk.newA wh _ (by first | rfl | simp)
  have Vb := bV1
  have Vz := zV1
  clear hV1 zV1 bV1
  have ht : IntsAt V1 (.slice (some ⟨wh.heap.size, 0, none⟩) 2 2) [0, 1] := ints_blk (l := [0, 1]) bT (by decide)
  replace hu1 := hu1.below Vb
  replace hu2 := hu2.below Vb
  replace hv1 := hv1.below Vb
  replace hv2 := hv2.below Vb
  replace hp1 := hp1.below Vb
  replace hp2 := hp2.below Vb
  replace hp4 := hp4.below Vb
  replace hf := hf.below Vb
  replace hs := hs.below Vb
  replace bE := bE.later Vb
  replace bQ := bQ.later Vb
  replace bL := bL.later Vb
  replace hC := hC.below Vb
  replace hw := below2 hw Vb
  replace e0 := bE.cell 0 rfl
  replace e1 := bE.cell 1 rfl
  replace e2 := bE.cell 2 rfl
  replace q0 := bQ.cell 0 rfl
  replace q1 := bQ.cell 1 rfl
  replace q2 := bQ.cell 2 rfl
  replace q3 := bQ.cell 3 rfl
  replace l0 := bL.cell 0 rfl
  replace l1 := bL.cell 1 rfl
  replace l2 := bL.cell 2 rfl
  replace l3 := bL.cell 3 rfl
  clear Vb
  clear Vz bT
  refine (ints_any [0, 1] [0, 1] _ _ _ hu2 ht).mono ?_
  rw [show intsB [0, 1] [0, 1] = true by decide]
  rintro e wi ⟨rfl, hb⟩
  clear ht
  replace hu1 := hu1.below hb
  replace hu2 := hu2.below hb
  replace hv1 := hv1.below hb
  replace hv2 := hv2.below hb
  replace hp1 := hp1.below hb
  replace hp2 := hp2.below hb
  replace hp4 := hp4.below hb
  replace hf := hf.below hb
  replace hs := hs.below hb
  replace bE := bE.later hb
  replace bQ := bQ.later hb
  replace bL := bL.later hb
  replace hC := hC.below hb
  replace hw := below2 hw hb
  replace e0 := bE.cell 0 rfl
  replace e1 := bE.cell 1 rfl
  replace e2 := bE.cell 2 rfl
  replace q0 := bQ.cell 0 rfl
  replace q1 := bQ.cell 1 rfl
  replace q2 := bQ.cell 2 rfl
  replace q3 := bQ.cell 3 rfl
  replace l0 := bL.cell 0 rfl
  replace l1 := bL.cell 1 rfl
  replace l2 := bL.cell 2 rfl
  replace l3 := bL.cell 3 rfl
  clear hb
  go_wp2_with fail
  generalize hV1 : World.alloc wi _ = V1
  have zV1 : V1.heap.size = wi.heap.size + 1 := by rw [← hV1]; simp
  have bV1 : Below wi.heap.size wi V1 := by rw [← hV1]; exact bal wi _
  have bT : Blk V1 (wi.heap.size) [.int .i64 0] 3 := by rw [← hV1]; exact Blk.newA wi _ (by first | rfl | simp)
  have Vb := bV1
  have Vz := zV1
  clear hV1 zV1 bV1
  have ht : IntsAt V1 (.slice (some ⟨wi.heap.size, 0, none⟩) 1 1) [0] := ints_blk (l := [0]) bT (by decide)
  replace hu1 := hu1.below Vb
  replace hu2 := hu2.below Vb
  replace hv1 := hv1.below Vb
  replace hv2 := hv2.below Vb
  replace hp1 := hp1.below Vb
  replace hp2 := hp2.below Vb
  replace hp4 := hp4.below Vb
  replace hf := hf.below Vb
  replace hs := hs.below Vb
  replace bE := bE.later Vb
  replace bQ := bQ.later Vb
  replace bL := bL.later Vb
  replace hC := hC.below Vb
  replace hw := below2 hw Vb
  replace e0 := bE.cell 0 rfl
  replace e1 := bE.cell 1 rfl
  replace e2 := bE.cell 2 rfl
  replace q0 := bQ.cell 0 rfl
  replace q1 := bQ.cell 1 rfl
  replace q2 := bQ.cell 2 rfl
  replace q3 := bQ.cell 3 rfl
  replace l0 := bL.cell 0 rfl
  replace l1 := bL.cell 1 rfl
  replace l2 := bL.cell 2 rfl
  replace l3 := bL.cell 3 rfl
  clear Vb
  clear Vz bT
  refine (ints_any [0] [0] _ _ _ hv1 ht).mono ?_
  rw [show intsB [0] [0] = true by decide]
  rintro e wj ⟨rfl, hb⟩
  clear ht
  replace hu1 := hu1.below hb
  replace hu2 := hu2.below hb
  replace hv1 := hv1.below hb
  replace hv2 := hv2.below hb
  replace hp1 := hp1.below hb
  replace hp2 := hp2.below hb
  replace hp4 := hp4.below hb
  replace hf := hf.below hb
  replace hs := hs.below hb
  replace bE := bE.later hb
  replace bQ := bQ.later hb
  replace bL := bL.later hb
  replace hC := hC.below hb
  replace hw := below2 hw hb
  replace e0 := bE.cell 0 rfl
  replace e1 := bE.cell 1 rfl
  replace e2 := bE.cell 2 rfl
  replace q0 := bQ.cell 0 rfl
  replace q1 := bQ.cell 1 rfl
  replace q2 := bQ.cell 2 rfl
  replace q3 := bQ.cell 3 rfl
  replace l0 := bL.cell 0 rfl
  replace l1 := bL.cell 1 rfl
  replace l2 := bL.cell 2 rfl
  replace l3 := bL.cell 3 rfl
  clear hb
  go_wp2_with fail
  generalize hV1 : World.alloc wj _ = V1
  have zV1 : V1.heap.size = wj.heap.size + 1 := by rw [← hV1]; simp
  have bV1 : Below wj.heap.size wj V1 := by rw [← hV1]; exact bal wj _
  have bT : Blk V1 (wj.heap.size) [.int .i64 0, .int .i64 1] 3 := by rw [← hV1]; exact Blk.newA wj _ (by first | rfl | simp)
  have Vb := bV1
  have Vz := zV1
  clear hV1 zV1 bV1
  have ht : IntsAt V1 (.slice (some ⟨wj.heap.size, 0, none⟩) 2 2) [0, 1] := ints_blk (l := [0, 1]) bT (by decide)
  replace hu1 := hu1.below Vb
  replace hu2 := hu2.below Vb
  replace hv1 := hv1.below Vb
  replace hv2 := hv2.below Vb
  replace hp1 := hp1.below Vb
  replace hp2 := hp2.below Vb
  replace hp4 := hp4.below Vb
  replace hf := hf.below Vb
  replace hs := hs.below Vb
  replace bE := bE.later Vb
  replace bQ := bQ.later Vb
  replace bL := bL.later Vb
  replace hC := hC.below Vb
  replace hw := below2 hw Vb
  replace e0 := bE.cell 0 rfl
  replace e1 := bE.cell 1 rfl
  replace e2 := bE.cell 2 rfl
  replace q0 := bQ.cell 0 rfl
  replace q1 := bQ.cell 1 rfl
  replace q2 := bQ.cell 2 rfl
  replace q3 := bQ.cell 3 rfl
  replace l0 := bL.cell 0 rfl
  replace l1 := bL.cell 1 rfl
  replace l2 := bL.cell 2 rfl
  replace l3 := bL.cell 3 rfl
  clear Vb
  clear Vz bT
  refine (ints_any [0, 1] [0, 1] _ _ _ hv2 ht).mono ?_
  rw [show intsB [0, 1] [0, 1] = true by decide]
  rintro e wk ⟨rfl, hb⟩
  clear ht
  replace hu1 := hu1.below hb
  replace hu2 := hu2.below hb
  replace hv1 := hv1.below hb
  replace hv2 := hv2.below hb
  replace hp1 := hp1.below hb
  replace hp2 := hp2.below hb
  replace hp4 := hp4.below hb
  replace hf := hf.below hb
  replace hs := hs.below hb
  replace bE := bE.later hb
  replace bQ := bQ.later hb
  replace bL := bL.later hb
  replace hC := hC.below hb
  replace hw := below2 hw hb
  replace e0 := bE.cell 0 rfl
  replace e1 := bE.cell 1 rfl
  replace e2 := bE.cell 2 rfl
  replace q0 := bQ.cell 0 rfl
  replace q1 := bQ.cell 1 rfl
  replace q2 := bQ.cell 2 rfl
  replace q3 := bQ.cell 3 rfl
  replace l0 := bL.cell 0 rfl
  replace l1 := bL.cell 1 rfl
  replace l2 := bL.cell 2 rfl
  replace l3 := bL.cell 3 rfl
  clear hb
  go_wp2_with fail
  refine (validS_any exC _ _ _ _ hC).mono ?_
  rw [val1.1]
  rintro e wl ⟨rfl, hb⟩
  replace hu1 := hu1.below hb
  replace hu2 := hu2.below hb
  replace hv1 := hv1.below hb
  replace hv2 := hv2.below hb
  replace hp1 := hp1.below hb
  replace hp2 := hp2.below hb
  replace hp4 := hp4.below hb
  replace hf := hf.below hb
  replace hs := hs.below hb
  replace bE := bE.later hb
  replace bQ := bQ.later hb
  replace bL := bL.later hb
  replace hC := hC.below hb
  replace hw := below2 hw hb
  replace e0 := bE.cell 0 rfl
  replace e1 := bE.cell 1 rfl
  replace e2 := bE.cell 2 rfl
  replace q0 := bQ.cell 0 rfl
  replace q1 := bQ.cell 1 rfl
  replace q2 := bQ.cell 2 rfl
  replace q3 := bQ.cell 3 rfl
  replace l0 := bL.cell 0 rfl
  replace l1 := bL.cell 1 rfl
  replace l2 := bL.cell 2 rfl
  replace l3 := bL.cell 3 rfl
  clear hb
  go_wp2_with fail
  generalize hV1 : World.alloc wl _ = V1
  have zV1 : V1.heap.size = wl.heap.size + 1 := by rw [← hV1]; simp
  have bV1 : Below wl.heap.size wl V1 := by rw [← hV1]; exact bal wl _
  have bT : Blk V1 (wl.heap.size) [.int .i64 0, .int .i64 0, .int .i64 0, .slice none 0 0, .slice none 0 0, .int .i64 0] 51 := by rw [← hV1]; exact Blk.newA wl _ (by first | rfl | simp)
  have Vb := bV1
  have Vz := zV1
  clear hV1 zV1 bV1
  have ht : CodeIn V1.cell? (.slice (some ⟨wl.heap.size, 0, none⟩) 1 1) (.slice none 0 0) (.slice none 0 0) ⟨[clause0], [], []⟩ := ⟨⟨some ⟨wl.heap.size, 0, none⟩, 1, rfl, by simp, by omega, fun i hi => by
    have e : i = 0 := by simp at hi; exact hi
    subst e
    exact ⟨wl.heap.size, 0, .slice none 0 0, .slice none 0 0, rfl, bT.cell 0 rfl, bT.cell 1 rfl, bT.cell 2 rfl, bT.cell 3 rfl, bT.cell 4 rfl, bT.cell 5 rfl, IntsIn.nil _, IntsIn.nil _⟩⟩, RecIn.nil _, RecIn.nil _⟩
  replace hu1 := hu1.below Vb
  replace hu2 := hu2.below Vb
  replace hv1 := hv1.below Vb
  replace hv2 := hv2.below Vb
  replace hp1 := hp1.below Vb
  replace hp2 := hp2.below Vb
  replace hp4 := hp4.below Vb
  replace hf := hf.below Vb
  replace hs := hs.below Vb
  replace bE := bE.later Vb
  replace bQ := bQ.later Vb
  replace bL := bL.later Vb
  replace hC := hC.below Vb
  replace hw := below2 hw Vb
  replace e0 := bE.cell 0 rfl
  replace e1 := bE.cell 1 rfl
  replace e2 := bE.cell 2 rfl
  replace q0 := bQ.cell 0 rfl
  replace q1 := bQ.cell 1 rfl
  replace q2 := bQ.cell 2 rfl
  replace q3 := bQ.cell 3 rfl
  replace l0 := bL.cell 0 rfl
  replace l1 := bL.cell 1 rfl
  replace l2 := bL.cell 2 rfl
  replace l3 := bL.cell 3 rfl
  clear Vb
  clear Vz bT
  refine (validS_any ⟨[clause0], [], []⟩ _ _ _ _ ht).mono ?_
  rw [val1.2.1]
  rintro e wm ⟨rfl, hb⟩
  clear ht
  replace hu1 := hu1.below hb
  replace hu2 := hu2.below hb
  replace hv1 := hv1.below hb
  replace hv2 := hv2.below hb
  replace hp1 := hp1.below hb
  replace hp2 := hp2.below hb
  replace hp4 := hp4.below hb
  replace hf := hf.below hb
  replace hs := hs.below hb
  replace bE := bE.later hb
  replace bQ := bQ.later hb
  replace bL := bL.later hb
  replace hC := hC.below hb
  replace hw := below2 hw hb
  replace e0 := bE.cell 0 rfl
  replace e1 := bE.cell 1 rfl
  replace e2 := bE.cell 2 rfl
  replace q0 := bQ.cell 0 rfl
  replace q1 := bQ.cell 1 rfl
  replace q2 := bQ.cell 2 rfl
  replace q3 := bQ.cell 3 rfl
  replace l0 := bL.cell 0 rfl
  replace l1 := bL.cell 1 rfl
  replace l2 := bL.cell 2 rfl
  replace l3 := bL.cell 3 rfl
  clear hb
  go_wp2_with fail
  refine (asksS_any ⟨7, 3, 400, 400⟩ _).mono ?_
  rw [val1.2.2.1]
  rintro e wn ⟨rfl, hb⟩
  replace hu1 := hu1.below hb
  replace hu2 := hu2.below hb
  replace hv1 := hv1.below hb
  replace hv2 := hv2.below hb
  replace hp1 := hp1.below hb
  replace hp2 := hp2.below hb
  replace hp4 := hp4.below hb
  replace hf := hf.below hb
  replace hs := hs.below hb
  replace bE := bE.later hb
  replace bQ := bQ.later hb
  replace bL := bL.later hb
  replace hC := hC.below hb
  replace hw := below2 hw hb
  replace e0 := bE.cell 0 rfl
  replace e1 := bE.cell 1 rfl
  replace e2 := bE.cell 2 rfl
  replace q0 := bQ.cell 0 rfl
  replace q1 := bQ.cell 1 rfl
  replace q2 := bQ.cell 2 rfl
  replace q3 := bQ.cell 3 rfl
  replace l0 := bL.cell 0 rfl
  replace l1 := bL.cell 1 rfl
  replace l2 := bL.cell 2 rfl
  replace l3 := bL.cell 3 rfl
  clear hb
  go_wp2_with fail
  refine (asksS_any ⟨0, 0, -1, 0⟩ _).mono ?_
  rw [val1.2.2.2]
  rintro e wo ⟨rfl, hb⟩
  replace hu1 := hu1.below hb
  replace hu2 := hu2.below hb
  replace hv1 := hv1.below hb
  replace hv2 := hv2.below hb
  replace hp1 := hp1.below hb
  replace hp2 := hp2.below hb
  replace hp4 := hp4.below hb
  replace hf := hf.below hb
  replace hs := hs.below hb
  replace bE := bE.later hb
  replace bQ := bQ.later hb
  replace bL := bL.later hb
  replace hC := hC.below hb
  replace hw := below2 hw hb
  replace e0 := bE.cell 0 rfl
  replace e1 := bE.cell 1 rfl
  replace e2 := bE.cell 2 rfl
  replace q0 := bQ.cell 0 rfl
  replace q1 := bQ.cell 1 rfl
  replace q2 := bQ.cell 2 rfl
  replace q3 := bQ.cell 3 rfl
  replace l0 := bL.cell 0 rfl
  replace l1 := bL.cell 1 rfl
  replace l2 := bL.cell 2 rfl
  replace l3 := bL.cell 3 rfl
  clear hb
  go_wp2_with fail
  go_ret
  exact ⟨rfl, hw⟩
end Go.Proofs.Ytdjldidfnddpmaa
