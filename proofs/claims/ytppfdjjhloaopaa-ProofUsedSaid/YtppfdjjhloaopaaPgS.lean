/- The walk of the law's sane: it returns true. No condition. -/
import Derived.Test.YtppfdjjhloaopaaPgA
namespace Go.Proofs.Ytppfdjjhloaopaa
open Go.RowKit

set_option maxRecDepth 100000 in
set_option maxHeartbeats 4000000 in
theorem sane34_any (w : World) : Calls Try.prog 9 #[] w (Ret (.bool true) w) := by
  go_enter Try.func9, Try.ntmps9
  go_wp2_with fail
  generalize hX1 : World.alloc w _ = X1
  have zX1 : X1.heap.size = w.heap.size + 1 := by rw [← hX1]; simp
  have bX1 : Below w.heap.size w X1 := by rw [← hX1]; exact bal w _
  have c1_1 : Blk X1 (w.heap.size) [.int .i64 2, .int .i64 2] 3 := by rw [← hX1]; exact Blk.newA w _ (by first | rfl | simp)
  generalize hX2 : World.alloc X1 _ = X2
  have zX2 : X2.heap.size = w.heap.size + 1 + 1 := by rw [← hX2]; simp [zX1]
  have bX2 : Below X1.heap.size X1 X2 := by rw [← hX2]; exact bal X1 _
  have c2_2 : Blk X2 (w.heap.size + 1) [.int .i64 (-1), .int .i64 (-1)] 3 := by rw [← hX2, ← zX1]; exact Blk.newA X1 _ (by first | rfl | simp)
  have c1_2 := c1_1.later bX2
  generalize hX3 : World.alloc X2 _ = X3
  have zX3 : X3.heap.size = w.heap.size + 1 + 1 + 1 := by rw [← hX3]; simp [zX2]
  have bX3 : Below X2.heap.size X2 X3 := by rw [← hX3]; exact bal X2 _
  have cR_3 : Blk X3 (w.heap.size + 1 + 1) [.int .i64 0, .int .i64 0, .int .i64 0, .int .i64 0, .slice (some ⟨w.heap.size, 0, none⟩) 2 2, .int .i64 3, .int .i64 0, .int .i64 0, .int .i64 0, .int .i64 0, .slice (some ⟨w.heap.size + 1, 0, none⟩) 2 2, .int .i64 (-2)] 67 := by rw [← hX3, ← zX2]; exact Blk.newA X2 _ (by first | rfl | simp)
  have c1_3 := c1_2.later bX3
  have c2_3 := c2_2.later bX3
  generalize hX4 : World.alloc X3 _ = X4
  have zX4 : X4.heap.size = w.heap.size + 1 + 1 + 1 + 1 := by rw [← hX4]; simp [zX3]
  have bX4 : Below X3.heap.size X3 X4 := by rw [← hX4]; exact bal X3 _
  have cG_4 : Blk X4 (w.heap.size + 1 + 1 + 1) [.int .i64 3, .int .i64 4] 3 := by rw [← hX4, ← zX3]; exact Blk.newA X3 _ (by first | rfl | simp)
  have c1_4 := c1_3.later bX4
  have c2_4 := c2_3.later bX4
  have cR_4 := cR_3.later bX4
  generalize hX5 : World.alloc X4 _ = X5
  have zX5 : X5.heap.size = w.heap.size + 1 + 1 + 1 + 1 + 1 := by rw [← hX5]; simp [zX4]
  have bX5 : Below X4.heap.size X4 X5 := by rw [← hX5]; exact bal X4 _
  have bP_5 : Blk X5 (w.heap.size + 1 + 1 + 1 + 1) [.int .i64 2, .slice (some ⟨w.heap.size + 1 + 1, 0, none⟩) 2 2, .slice (some ⟨w.heap.size + 1 + 1 + 1, 0, none⟩) 2 2] 27 := by rw [← hX5, ← zX4]; exact Blk.newA X4 _ (by first | rfl | simp)
  have c1_5 := c1_4.later bX5
  have c2_5 := c2_4.later bX5
  have cR_5 := cR_4.later bX5
  have cG_5 := cG_4.later bX5
  generalize hX6 : World.alloc X5 _ = X6
  have zX6 : X6.heap.size = w.heap.size + 1 + 1 + 1 + 1 + 1 + 1 := by rw [← hX6]; simp [zX5]
  have bX6 : Below X5.heap.size X5 X6 := by rw [← hX6]; exact bal X5 _
  have v1 : Blk X6 (w.heap.size + 1 + 1 + 1 + 1 + 1) [.int .i64 0, .int .i64 1, .int .i64 1, .int .i64 2] 56 := by rw [← hX6, ← zX5]; exact Blk.newA X5 _ (by first | rfl | simp)
  have c1 := c1_5.later bX6
  have c2 := c2_5.later bX6
  have cR := cR_5.later bX6
  have cG := cG_5.later bX6
  have bP := bP_5.later bX6
  have Xb := below2 (below2 (below2 (below2 (below2 (bX1) bX2) bX3) bX4) bX5) bX6
  have Xz := zX6
  clear hX1 zX1 bX1 hX2 zX2 bX2 hX3 zX3 bX3 hX4 zX4 bX4 hX5 zX5 bX5 hX6 zX6 bX6 c1_1 c1_2 c1_3 c1_4 c1_5 c2_2 c2_3 c2_4 c2_5 cR_3 cR_4 cR_5 cG_4 cG_5 bP_5
  have hG : IntsAt X6 (.slice (some ⟨w.heap.size + 1 + 1 + 1, 0, none⟩) 2 2) saP.gain := (cG.ints (l := [3, 4]) (B := 0) (Nat.zero_le _) (by decide)).keeps (keeps_frm _ _)
  have hR : RowsAt X6 (.slice (some ⟨w.heap.size + 1 + 1, 0, none⟩) 2 2) saP.rows := RowsIn.keeps (keeps_frm 0 _) (Blk.rows (L := [[.int .i64 0, .int .i64 0, .int .i64 0, .int .i64 0, .slice (some ⟨w.heap.size, 0, none⟩) 2 2, .int .i64 3], [.int .i64 0, .int .i64 0, .int .i64 0, .int .i64 0, .slice (some ⟨w.heap.size + 1, 0, none⟩) 2 2, .int .i64 (-2)]]) (l := saP.rows) cR (Nat.zero_le _) (by decide) (by intro r hr; simp at hr; rcases hr with rfl | rfl <;> rfl) rfl (fun i hi => by
    match i, hi with
    | 0, _ => exact ⟨_, rfl, c1.ints (l := [2, 2]) (Nat.zero_le _) (by decide)⟩
    | 1, _ => exact ⟨_, rfl, c2.ints (l := [-1, -1]) (Nat.zero_le _) (by decide)⟩))
  clear c1 c2 cR cG Xz
  refine (leafl_any _ _ _ _ X6 rfl).mono ?_
  rintro e w1 ⟨rfl, hb⟩
  have hw1 := below2 Xb hb
  have V1 := v1.later hb
  have P1 := bP.later hb
  have hR1 := hR.below hb
  have hG1 := hG.below hb
  clear hb Xb v1 bP hR hG
  go_wp2_with fail
  generalize hY1 : World.alloc w1 _ = Y1
  have zY1 : Y1.heap.size = w1.heap.size + 1 := by rw [← hY1]; simp
  have bY1 : Below w1.heap.size w1 Y1 := by rw [← hY1]; exact bal w1 _
  have s1_1 : Blk Y1 (w1.heap.size) [.int .i64 (-1), .int .i64 0, .int .i64 0, .slice (some ⟨w.heap.size + 1 + 1 + 1 + 1 + 1, 0, none⟩) 2 2] 54 := by rw [← hY1]; exact Blk.newA w1 _ (by first | rfl | simp)
  generalize hY2 : World.alloc Y1 _ = Y2
  have zY2 : Y2.heap.size = w1.heap.size + 1 + 1 := by rw [← hY2]; simp [zY1]
  have bY2 : Below Y1.heap.size Y1 Y2 := by rw [← hY2]; exact bal Y1 _
  have v2 : Blk Y2 (w1.heap.size + 1) [.int .i64 0, .int .i64 1] 56 := by rw [← hY2, ← zY1]; exact Blk.newA Y1 _ (by first | rfl | simp)
  have s1 := s1_1.later bY2
  have Yb := below2 (bY1) bY2
  have Yz := zY2
  clear hY1 zY1 bY1 hY2 zY2 bY2 s1_1
  have hOne : StepsIn Y2.cell? (.slice (some ⟨w1.heap.size, 0, none⟩) 1 1) saOne := Blk.steps (l := saOne) s1 (by decide) (fun k hk => by
    match k, hk with
    | 0, _ => exact ⟨_, rfl, rfl, rfl, rfl, (V1.later Yb).wts (l := [(0, 1), (1, 2)]) (by decide) (fun k hk => by
        match k, hk with
        | 0, _ => exact ⟨rfl, rfl⟩
        | 1, _ => exact ⟨rfl, rfl⟩)⟩)
  refine (leafl_any _ _ _ _ Y2 rfl).mono ?_
  rintro e w2 ⟨rfl, hb⟩
  have hb2 := below2 Yb hb
  have hw2 := below2 hw1 hb2
  have V2 := v2.later hb
  have P2 := P1.later hb2
  have hR2 := hR1.below hb2
  have hG2 := hG1.below hb2
  have O2 := hOne.keeps (keeps_of_below hb)
  have ySz := below2 Yb hb
  clear hb Yb v2 hOne s1 V1 P1 hR1 hG1 hb2 Yz
  go_wp2_with fail
  generalize hZ1 : World.alloc w2 _ = Z1
  have zZ1 : Z1.heap.size = w2.heap.size + 1 := by rw [← hZ1]; simp
  have bZ1 : Below w2.heap.size w2 Z1 := by rw [← hZ1]; exact bal w2 _
  have s2_1 : Blk Z1 (w2.heap.size) [.int .i64 (-1), .int .i64 0, .int .i64 0, .slice (some ⟨w1.heap.size + 1, 0, none⟩) 1 1] 54 := by rw [← hZ1]; exact Blk.newA w2 _ (by first | rfl | simp)
  generalize hZ2 : World.alloc Z1 _ = Z2
  have zZ2 : Z2.heap.size = w2.heap.size + 1 + 1 := by rw [← hZ2]; simp [zZ1]
  have bZ2 : Below Z1.heap.size Z1 Z2 := by rw [← hZ2]; exact bal Z1 _
  have v3 : Blk Z2 (w2.heap.size + 1) [.int .i64 1, .int .i64 1] 56 := by rw [← hZ2, ← zZ1]; exact Blk.newA Z1 _ (by first | rfl | simp)
  have s2 := s2_1.later bZ2
  have Zb := below2 (bZ1) bZ2
  have Zz := zZ2
  clear hZ1 zZ1 bZ1 hZ2 zZ2 bZ2 s2_1
  have hTwo : StepsIn Z2.cell? (.slice (some ⟨w2.heap.size, 0, none⟩) 1 1) saTwo := Blk.steps (l := saTwo) s2 (by decide) (fun k hk => by
    match k, hk with
    | 0, _ => exact ⟨_, rfl, rfl, rfl, rfl, (V2.later Zb).wts (l := [(0, 1)]) (by decide) (fun k hk => by
        match k, hk with
        | 0, _ => exact ⟨rfl, rfl⟩)⟩)
  refine (leafl_any _ _ _ _ Z2 rfl).mono ?_
  rintro e w3 ⟨rfl, hb⟩
  have hb3 := below2 Zb hb
  have hw3 := below2 hw2 hb3
  have V3 := v3.later hb
  have P3 := P2.later hb3
  have hR3 := hR2.below hb3
  have hG3 := hG2.below hb3
  have O3 := O2.keeps (keeps_of_below hb3)
  have T3 := hTwo.keeps (keeps_of_below hb)
  clear hb Zb v3 hTwo s2 V2 P2 hR2 hG2 hb3 O2 Zz
  go_wp2_with fail
  generalize hU1 : World.alloc w3 _ = U1
  have zU1 : U1.heap.size = w3.heap.size + 1 := by rw [← hU1]; simp
  have bU1 : Below w3.heap.size w3 U1 := by rw [← hU1]; exact bal w3 _
  have v4 : Blk U1 (w3.heap.size) [.int .i64 1, .int .i64 1] 56 := by rw [← hU1]; exact Blk.newA w3 _ (by first | rfl | simp)
  have Ub := bU1
  have Uz := zU1
  clear hU1 zU1 bU1
  refine (leafl_any _ _ _ _ U1 rfl).mono ?_
  rintro e w4 ⟨rfl, hb⟩
  have hb4 := below2 Ub hb
  have V4 := v4.later hb
  go_wp2_with fail
  generalize hV1 : World.alloc w4 _ = V1
  have zV1 : V1.heap.size = w4.heap.size + 1 := by rw [← hV1]; simp
  have bV1 : Below w4.heap.size w4 V1 := by rw [← hV1]; exact bal w4 _
  have v5 : Blk V1 (w4.heap.size) [.int .i64 0, .int .i64 1] 56 := by rw [← hV1]; exact Blk.newA w4 _ (by first | rfl | simp)
  have Vb := bV1
  have Vz := zV1
  clear hV1 zV1 bV1
  refine (leafl_any _ _ _ _ V1 rfl).mono ?_
  rintro e w5 ⟨rfl, hb'⟩
  have hb5 := below2 Vb hb'
  have hb35 := below2 hb4 hb5
  have hw5 := below2 hw3 hb35
  have V5 := v5.later hb'
  have W4 := V4.later hb5
  have W3 := V3.later hb35
  have P5 := P3.later hb35
  have hR5 := hR3.below hb35
  have hG5 := hG3.below hb35
  have O5 := O3.keeps (keeps_of_below hb35)
  have T5 := T3.keeps (keeps_of_below hb35)
  clear hb Ub Uz Vb Vz hb' v4 v5 hb4 hb5 hb35 V4 V3 P3 hR3 hG3 O3 T3
  go_upto_region 5 with (fail)
  generalize hD1 : World.alloc w5 _ = D1
  have zD1 : D1.heap.size = w5.heap.size + 1 := by rw [← hD1]; simp
  have bD1 : Below w5.heap.size w5 D1 := by rw [← hD1]; exact bal w5 _
  have s3 : Blk D1 (w5.heap.size) [.int .i64 0, .int .i64 1, .int .i64 2, .slice none 0 0, .int .i64 (-1), .int .i64 0, .int .i64 0, .slice (some ⟨w2.heap.size + 1, 0, none⟩) 1 1, .int .i64 1, .int .i64 3, .int .i64 4, .slice none 0 0, .int .i64 (-1), .int .i64 0, .int .i64 0, .slice (some ⟨w3.heap.size, 0, none⟩) 1 1, .int .i64 (-1), .int .i64 0, .int .i64 0, .slice (some ⟨w4.heap.size, 0, none⟩) 1 1] 54 := by rw [← hD1]; exact Blk.newA w5 _ (by first | rfl | simp)
  have Db := bD1
  have Dz := zD1
  clear hD1 zD1 bD1
  have hThree : StepsIn D1.cell? (.slice (some ⟨w5.heap.size, 0, none⟩) 5 5) saThree := Blk.steps (l := saThree) s3 (by decide) (fun k hk => by
    match k, hk with
    | 0, _ => exact ⟨_, rfl, rfl, rfl, rfl, WtsIn.empty _⟩
    | 1, _ => exact ⟨_, rfl, rfl, rfl, rfl, (W3.later Db).wts (l := [(1, 1)]) (by decide) (fun k hk => by
        match k, hk with
        | 0, _ => exact ⟨rfl, rfl⟩)⟩
    | 2, _ => exact ⟨_, rfl, rfl, rfl, rfl, WtsIn.empty _⟩
    | 3, _ => exact ⟨_, rfl, rfl, rfl, rfl, (W4.later Db).wts (l := [(1, 1)]) (by decide) (fun k hk => by
        match k, hk with
        | 0, _ => exact ⟨rfl, rfl⟩)⟩
    | 4, _ => exact ⟨_, rfl, rfl, rfl, rfl, (V5.later Db).wts (l := [(0, 1)]) (by decide) (fun k hk => by
        match k, hk with
        | 0, _ => exact ⟨rfl, rfl⟩)⟩)
  have hwD := below2 hw5 Db
  have PD := P5.later Db
  have hRD := hR5.below Db
  have hGD := hG5.below Db
  have OD := O5.keeps (keeps_of_below Db)
  have TD := T5.keeps (keeps_of_below Db)
  have p0 := PD.cell 0 rfl
  have p1 := PD.cell 1 rfl
  have p2 := PD.cell 2 rfl
  have lP := PD.lt
  have Db' := Below.refl D1.heap.size D1
  clear Dz s3 P5 hR5 hG5 O5 T5 W3 W4 V5 hw5 hw3 hw2 hw1
  go_wp2_with fail
  generalize hE1 : World.alloc D1 _ = E1
  have zE1 : E1.heap.size = D1.heap.size + 1 := by rw [← hE1]; simp
  have bE1 : Below D1.heap.size D1 E1 := by rw [← hE1]; exact bal D1 _
  have bQ_1 : Blk E1 (D1.heap.size) [.int .i64 2, .slice (some ⟨w.heap.size + 1 + 1, 0, none⟩) 1 2, .slice (some ⟨w.heap.size + 1 + 1 + 1, 0, none⟩) 2 2] 27 := by rw [← hE1]; exact Blk.newA D1 _ (by first | rfl | simp)
  generalize hE2 : World.alloc E1 _ = E2
  have zE2 : E2.heap.size = D1.heap.size + 1 + 1 := by rw [← hE2]; simp [zE1]
  have bE2 : Below E1.heap.size E1 E2 := by rw [← hE2]; exact bal E1 _
  have v6 : Blk E2 (D1.heap.size + 1) [.int .i64 0, .int .i64 2, .int .i64 1, .int .i64 1] 56 := by rw [← hE2, ← zE1]; exact Blk.newA E1 _ (by first | rfl | simp)
  have bQ := bQ_1.later bE2
  have Eb := below2 (bE1) bE2
  have Ez := zE2
  clear hE1 zE1 bE1 hE2 zE2 bE2 bQ_1
  have hRQ : RowsAt D1 (.slice (some ⟨w.heap.size + 1 + 1, 0, none⟩) 1 2) saQ.rows := by
    obtain ⟨a', n', e', -, -, hh⟩ := hRD
    injection e' with e1 e2 e3
    subst e1
    exact ⟨_, _, rfl, by decide, by decide, fun k hk => by
      match k, hk with
      | 0, _ => exact hh 0 (by decide)⟩
  refine (leafl_any _ _ _ _ E2 rfl).mono ?_
  rintro e w6 ⟨rfl, hb⟩
  have hb6 := below2 Eb hb
  have V6 := v6.later hb
  have P := PD.later hb6
  have Q := bQ.later hb
  have hR := hRD.below hb6
  have hG := hGD.below hb6
  replace hRQ := hRQ.below hb6
  have hO := OD.keeps (keeps_of_below hb6)
  have hT := TD.keeps (keeps_of_below hb6)
  have hH := hThree.keeps (keeps_of_below (below2 Db' hb6))
  have hw := below2 hwD hb6
  clear hb Eb Ez bQ v6 PD hRD hGD OD TD hThree hwD hb6 p0 p1 p2 lP
  go_wp2_with fail
  generalize hF1 : World.alloc w6 _ = F1
  have zF1 : F1.heap.size = w6.heap.size + 1 := by rw [← hF1]; simp
  have bF1 : Below w6.heap.size w6 F1 := by rw [← hF1]; exact bal w6 _
  have s4 : Blk F1 (w6.heap.size) [.int .i64 (-1), .int .i64 0, .int .i64 0, .slice (some ⟨D1.heap.size + 1, 0, none⟩) 2 2] 54 := by rw [← hF1]; exact Blk.newA w6 _ (by first | rfl | simp)
  have Fb := bF1
  have Fz := zF1
  clear hF1 zF1 bF1
  have hL : StepsIn F1.cell? (.slice (some ⟨w6.heap.size, 0, none⟩) 1 1) saGoal := Blk.steps (l := saGoal) s4 (by decide) (fun k hk => by
    match k, hk with
    | 0, _ => exact ⟨_, rfl, rfl, rfl, rfl, (V6.later Fb).wts (l := [(0, 2), (1, 1)]) (by decide) (fun k hk => by
        match k, hk with
        | 0, _ => exact ⟨rfl, rfl⟩
        | 1, _ => exact ⟨rfl, rfl⟩)⟩)
  replace P := P.later Fb
  replace Q := Q.later Fb
  replace hR := hR.below Fb
  replace hG := hG.below Fb
  replace hRQ := hRQ.below Fb
  replace hO := hO.keeps (keeps_of_below Fb)
  replace hT := hT.keeps (keeps_of_below Fb)
  replace hH := hH.keeps (keeps_of_below Fb)
  have hw := below2 hw Fb
  clear Fb Fz s4 V6
  refine (sizep_any saThree _ F1 hH).mono ?_
  rw [show leavesN saThree saThree.length = 3 from sa_facts2.2.2.2]
  rintro e w7 ⟨rfl, hb7⟩
  have p0 := P.cell 0 rfl
  have p1 := P.cell 1 rfl
  have p2 := P.cell 2 rfl
  have q0 := Q.cell 0 rfl
  have q1 := Q.cell 1 rfl
  have q2 := Q.cell 2 rfl
  have lP := P.lt
  have lQ := Q.lt
  replace P := P.later hb7
  replace Q := Q.later hb7
  replace hR := hR.below hb7
  replace hG := hG.below hb7
  replace hRQ := hRQ.below hb7
  replace hO := hO.keeps (keeps_of_below hb7)
  replace hT := hT.keeps (keeps_of_below hb7)
  replace hH := hH.keeps (keeps_of_below hb7)
  replace hL := hL.keeps (keeps_of_below hb7)
  replace p0 := P.cell 0 rfl
  replace p1 := P.cell 1 rfl
  replace p2 := P.cell 2 rfl
  replace q0 := Q.cell 0 rfl
  replace q1 := Q.cell 1 rfl
  replace q2 := Q.cell 2 rfl
  replace lP := P.lt
  replace lQ := Q.lt
  replace hw := below2 hw hb7
  clear hb7
  go_wp2_with fail
  refine (refutesp_any saP _ _ saOne _ w7 hR hG hO).mono ?_
  rw [sa_facts.1]
  rintro e w8 ⟨rfl, hb8⟩
  replace P := P.later hb8
  replace Q := Q.later hb8
  replace hR := hR.below hb8
  replace hG := hG.below hb8
  replace hRQ := hRQ.below hb8
  replace hO := hO.keeps (keeps_of_below hb8)
  replace hT := hT.keeps (keeps_of_below hb8)
  replace hH := hH.keeps (keeps_of_below hb8)
  replace hL := hL.keeps (keeps_of_below hb8)
  replace p0 := P.cell 0 rfl
  replace p1 := P.cell 1 rfl
  replace p2 := P.cell 2 rfl
  replace q0 := Q.cell 0 rfl
  replace q1 := Q.cell 1 rfl
  replace q2 := Q.cell 2 rfl
  replace lP := P.lt
  replace lQ := Q.lt
  replace hw := below2 hw hb8
  go_wp2_with fail
  refine (refutesp_any saP _ _ saTwo _ w8 hR hG hT).mono ?_
  rw [sa_facts.2.1]
  rintro e w9 ⟨rfl, hb9⟩
  replace P := P.later hb9
  replace Q := Q.later hb9
  replace hR := hR.below hb9
  replace hG := hG.below hb9
  replace hRQ := hRQ.below hb9
  replace hO := hO.keeps (keeps_of_below hb9)
  replace hT := hT.keeps (keeps_of_below hb9)
  replace hH := hH.keeps (keeps_of_below hb9)
  replace hL := hL.keeps (keeps_of_below hb9)
  replace p0 := P.cell 0 rfl
  replace p1 := P.cell 1 rfl
  replace p2 := P.cell 2 rfl
  replace q0 := Q.cell 0 rfl
  replace q1 := Q.cell 1 rfl
  replace q2 := Q.cell 2 rfl
  replace lP := P.lt
  replace lQ := Q.lt
  replace hw := below2 hw hb9
  go_wp2_with fail
  refine (refutesp_any saP _ _ saThree _ w9 hR hG hH).mono ?_
  rw [sa_facts.2.2.1]
  rintro e w10 ⟨rfl, hb10⟩
  replace P := P.later hb10
  replace Q := Q.later hb10
  replace hR := hR.below hb10
  replace hG := hG.below hb10
  replace hRQ := hRQ.below hb10
  replace hO := hO.keeps (keeps_of_below hb10)
  replace hT := hT.keeps (keeps_of_below hb10)
  replace hH := hH.keeps (keeps_of_below hb10)
  replace hL := hL.keeps (keeps_of_below hb10)
  replace p0 := P.cell 0 rfl
  replace p1 := P.cell 1 rfl
  replace p2 := P.cell 2 rfl
  replace q0 := Q.cell 0 rfl
  replace q1 := Q.cell 1 rfl
  replace q2 := Q.cell 2 rfl
  replace lP := P.lt
  replace lQ := Q.lt
  replace hw := below2 hw hb10
  go_wp2_with fail
  refine (wrong_any saP _ _ saOne _ w10 hR hG hO).mono ?_
  rw [sa_facts.2.2.2.1]
  rintro e w11 ⟨rfl, hb11⟩
  replace P := P.later hb11
  replace Q := Q.later hb11
  replace hR := hR.below hb11
  replace hG := hG.below hb11
  replace hRQ := hRQ.below hb11
  replace hO := hO.keeps (keeps_of_below hb11)
  replace hT := hT.keeps (keeps_of_below hb11)
  replace hH := hH.keeps (keeps_of_below hb11)
  replace hL := hL.keeps (keeps_of_below hb11)
  replace p0 := P.cell 0 rfl
  replace p1 := P.cell 1 rfl
  replace p2 := P.cell 2 rfl
  replace q0 := Q.cell 0 rfl
  replace q1 := Q.cell 1 rfl
  replace q2 := Q.cell 2 rfl
  replace lP := P.lt
  replace lQ := Q.lt
  replace hw := below2 hw hb11
  go_wp2_with fail
  refine (wrong_any saP _ _ saTwo _ w11 hR hG hT).mono ?_
  rw [sa_facts.2.2.2.2.1]
  rintro e w12 ⟨rfl, hb12⟩
  replace P := P.later hb12
  replace Q := Q.later hb12
  replace hR := hR.below hb12
  replace hG := hG.below hb12
  replace hRQ := hRQ.below hb12
  replace hO := hO.keeps (keeps_of_below hb12)
  replace hT := hT.keeps (keeps_of_below hb12)
  replace hH := hH.keeps (keeps_of_below hb12)
  replace hL := hL.keeps (keeps_of_below hb12)
  replace p0 := P.cell 0 rfl
  replace p1 := P.cell 1 rfl
  replace p2 := P.cell 2 rfl
  replace q0 := Q.cell 0 rfl
  replace q1 := Q.cell 1 rfl
  replace q2 := Q.cell 2 rfl
  replace lP := P.lt
  replace lQ := Q.lt
  replace hw := below2 hw hb12
  go_wp2_with fail
  refine (wrong_any ⟨-1, [], []⟩ (.slice none 0 0) (.slice none 0 0) saOne _ w12 (RowsIn.empty _) (IntsIn.nil _) hO).mono ?_
  rw [sa_facts.2.2.2.2.2.1]
  rintro e w13 ⟨rfl, hb13⟩
  replace P := P.later hb13
  replace Q := Q.later hb13
  replace hR := hR.below hb13
  replace hG := hG.below hb13
  replace hRQ := hRQ.below hb13
  replace hO := hO.keeps (keeps_of_below hb13)
  replace hT := hT.keeps (keeps_of_below hb13)
  replace hH := hH.keeps (keeps_of_below hb13)
  replace hL := hL.keeps (keeps_of_below hb13)
  replace p0 := P.cell 0 rfl
  replace p1 := P.cell 1 rfl
  replace p2 := P.cell 2 rfl
  replace q0 := Q.cell 0 rfl
  replace q1 := Q.cell 1 rfl
  replace q2 := Q.cell 2 rfl
  replace lP := P.lt
  replace lQ := Q.lt
  replace hw := below2 hw hb13
  go_wp2_with fail
  refine (wrong_any saP _ _ [] _ w13 hR hG (StepsIn.nil _)).mono ?_
  rw [sa_facts.2.2.2.2.2.2]
  rintro e w14 ⟨rfl, hb14⟩
  replace P := P.later hb14
  replace Q := Q.later hb14
  replace hR := hR.below hb14
  replace hG := hG.below hb14
  replace hRQ := hRQ.below hb14
  replace hO := hO.keeps (keeps_of_below hb14)
  replace hT := hT.keeps (keeps_of_below hb14)
  replace hH := hH.keeps (keeps_of_below hb14)
  replace hL := hL.keeps (keeps_of_below hb14)
  replace p0 := P.cell 0 rfl
  replace p1 := P.cell 1 rfl
  replace p2 := P.cell 2 rfl
  replace q0 := Q.cell 0 rfl
  replace q1 := Q.cell 1 rfl
  replace q2 := Q.cell 2 rfl
  replace lP := P.lt
  replace lQ := Q.lt
  replace hw := below2 hw hb14
  go_wp2_with fail
  refine (bounds_any saQ _ _ saGoal _ 6 w14 hRQ hG hL (by decide) (by decide)).mono ?_
  rw [sa_facts2.1]
  rintro e w15 ⟨rfl, hb15⟩
  replace P := P.later hb15
  replace Q := Q.later hb15
  replace hR := hR.below hb15
  replace hG := hG.below hb15
  replace hRQ := hRQ.below hb15
  replace hO := hO.keeps (keeps_of_below hb15)
  replace hT := hT.keeps (keeps_of_below hb15)
  replace hH := hH.keeps (keeps_of_below hb15)
  replace hL := hL.keeps (keeps_of_below hb15)
  replace p0 := P.cell 0 rfl
  replace p1 := P.cell 1 rfl
  replace p2 := P.cell 2 rfl
  replace q0 := Q.cell 0 rfl
  replace q1 := Q.cell 1 rfl
  replace q2 := Q.cell 2 rfl
  replace lP := P.lt
  replace lQ := Q.lt
  replace hw := below2 hw hb15
  go_wp2_with fail
  refine (bounds_any saQ _ _ saGoal _ 5 w15 hRQ hG hL (by decide) (by decide)).mono ?_
  rw [sa_facts2.2.1]
  rintro e w16 ⟨rfl, hb16⟩
  replace P := P.later hb16
  replace Q := Q.later hb16
  replace hR := hR.below hb16
  replace hG := hG.below hb16
  replace hRQ := hRQ.below hb16
  replace hO := hO.keeps (keeps_of_below hb16)
  replace hT := hT.keeps (keeps_of_below hb16)
  replace hH := hH.keeps (keeps_of_below hb16)
  replace hL := hL.keeps (keeps_of_below hb16)
  replace p0 := P.cell 0 rfl
  replace p1 := P.cell 1 rfl
  replace p2 := P.cell 2 rfl
  replace q0 := Q.cell 0 rfl
  replace q1 := Q.cell 1 rfl
  replace q2 := Q.cell 2 rfl
  replace lP := P.lt
  replace lQ := Q.lt
  replace hw := below2 hw hb16
  go_wp2_with fail
  refine (refutesp_any saQ _ _ saGoal _ w16 hRQ hG hL).mono ?_
  rw [sa_facts2.2.2.1]
  rintro e w17 ⟨rfl, hb17⟩
  replace P := P.later hb17
  replace Q := Q.later hb17
  replace hR := hR.below hb17
  replace hG := hG.below hb17
  replace hRQ := hRQ.below hb17
  replace hO := hO.keeps (keeps_of_below hb17)
  replace hT := hT.keeps (keeps_of_below hb17)
  replace hH := hH.keeps (keeps_of_below hb17)
  replace hL := hL.keeps (keeps_of_below hb17)
  replace p0 := P.cell 0 rfl
  replace p1 := P.cell 1 rfl
  replace p2 := P.cell 2 rfl
  replace q0 := Q.cell 0 rfl
  replace q1 := Q.cell 1 rfl
  replace q2 := Q.cell 2 rfl
  replace lP := P.lt
  replace lQ := Q.lt
  replace hw := below2 hw hb17
  go_wp2_with fail
  refine (rowsp_any saP _ _ saOne _ w17 hR hG hO).mono ?_
  rw [sa_used.1]
  rintro e w18 ⟨v, rfl, hv, hb18⟩
  obtain ⟨va, vc, rfl, -⟩ := id hv
  have hv18 : IntsAt w18 _ _ := hv.keeps (keeps_frm _ _)
  replace P := P.later hb18
  replace Q := Q.later hb18
  replace hR := hR.below hb18
  replace hG := hG.below hb18
  replace hRQ := hRQ.below hb18
  replace hO := hO.keeps (keeps_of_below hb18)
  replace hT := hT.keeps (keeps_of_below hb18)
  replace hH := hH.keeps (keeps_of_below hb18)
  replace hL := hL.keeps (keeps_of_below hb18)
  replace p0 := P.cell 0 rfl
  replace p1 := P.cell 1 rfl
  replace p2 := P.cell 2 rfl
  replace q0 := Q.cell 0 rfl
  replace q1 := Q.cell 1 rfl
  replace q2 := Q.cell 2 rfl
  replace lP := P.lt
  replace lQ := Q.lt
  replace hw := below2 hw hb18
  clear hv
  go_wp2_with fail
  generalize hG1 : World.alloc w18 _ = G1
  have zG1 : G1.heap.size = w18.heap.size + 1 := by rw [← hG1]; simp
  have bG1 : Below w18.heap.size w18 G1 := by rw [← hG1]; exact bal w18 _
  have i2 : Blk G1 (w18.heap.size) [.int .i64 0, .int .i64 1] 3 := by rw [← hG1]; exact Blk.newA w18 _ (by first | rfl | simp)
  have Gb := bG1
  have Gz := zG1
  clear hG1 zG1 bG1
  refine (ints_any [0, 1] [0, 1] _ _ G1 (hv18.below Gb) ((i2.ints (l := [0, 1]) (B := 0) (Nat.zero_le _) (by decide)).keeps (keeps_frm _ _))).mono ?_
  rw [show intsB [0, 1] [0, 1] = true from rfl]
  rintro e w19 ⟨rfl, hb19⟩
  have hb1819 := below2 Gb hb19
  replace P := P.later hb1819
  replace Q := Q.later hb1819
  replace hR := hR.below hb1819
  replace hG := hG.below hb1819
  replace hRQ := hRQ.below hb1819
  replace hO := hO.keeps (keeps_of_below hb1819)
  replace hT := hT.keeps (keeps_of_below hb1819)
  replace hH := hH.keeps (keeps_of_below hb1819)
  replace hL := hL.keeps (keeps_of_below hb1819)
  replace p0 := P.cell 0 rfl
  replace p1 := P.cell 1 rfl
  replace p2 := P.cell 2 rfl
  replace q0 := Q.cell 0 rfl
  replace q1 := Q.cell 1 rfl
  replace q2 := Q.cell 2 rfl
  replace lP := P.lt
  replace lQ := Q.lt
  replace hw := below2 hw hb1819
  clear Gb Gz i2 hv18
  go_wp2_with fail
  refine (rowsp_any saP _ _ saTwo _ w19 hR hG hT).mono ?_
  rw [sa_used.2]
  rintro e w20 ⟨v, rfl, hv, hb20⟩
  obtain ⟨va', vc', rfl, -⟩ := id hv
  replace hw := below2 hw hb20
  clear hv
  go_wp2_with fail
  go_ret
  exact ⟨rfl, hw⟩
end Go.Proofs.Ytppfdjjhloaopaa
