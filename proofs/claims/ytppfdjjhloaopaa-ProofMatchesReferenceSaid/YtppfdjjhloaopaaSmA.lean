/- The walk of Solve of the reference. Conditions: how the arguments lie in memory. -/
import Derived.Test.YtppfdjjhloaopaaPgA
import Derived.Test.YtppfdjjhloaopaaProw
import Derived.Deep.RegionLawGrows
import Derived.Laws.AppendOwnNone
import Derived.Maps.AppendAt
import Derived.Test.YtppfdjjhloaopaaBlk
import Derived.Test.YtppfdjjhloaopaaLists
import Derived.Test.YtppfdjjhloaopaaPmodC
import Derived.WalkSpells
import Derived.Test.YtppfdjjhloaopaaBlkI
import Derived.Test.YtppfdjjhloaopaaPw15
import Derived.Test.YtppfdjjhloaopaaPw11
import Derived.Test.YtppfdjjhloaopaaPmodJ
import Derived.RegionTactic
import Derived.ChangeAlike
import Derived.Laws.NewBlocks
import Derived.Test.YtppfdjjhloaopaaBlkB
import Derived.Test.YtppfdjjhloaopaaRegM
import Derived.Test.YtppfdjjhloaopaaBase
import Derived.Test.YtppfdjjhloaopaaPmodA
import Derived.Test.YtppfdjjhloaopaaPw6
/- The walk of the law's sane: it returns true. No condition. -/
namespace Go.Proofs.Ytppfdjjhloaopaa
open Go.RowKit

set_option maxRecDepth 100000 in
set_option maxHeartbeats 4000000 in
theorem sane34_any (w : World) : Calls Try.prog 9 #[] w (Ret (.bool true) w) := by
  go_enter Try.func9, Try.ntmps9
  go_wp2_with fail
  generalize hX1 : World.alloc w _ = X1
  have zX1 : X1.heap.size = w.heap.size + 1 := by rw [← hX1]; simp
  have bX1 : Below w.heap.size w X1 := by rw [← hX1]; exact bal w _
  have c1_1 : Blk X1 (w.heap.size) [.int .i64 2, .int .i64 2] 3 := by rw [← hX1]; exact Blk.newA w _ (by first | rfl | simp)
  generalize hX2 : World.alloc X1 _ = X2
  have zX2 : X2.heap.size = w.heap.size + 1 + 1 := by rw [← hX2]; simp [zX1]
  have bX2 : Below X1.heap.size X1 X2 := by rw [← hX2]; exact bal X1 _
  have c2_2 : Blk X2 (w.heap.size + 1) [.int .i64 (-1), .int .i64 (-1)] 3 := by rw [← hX2, ← zX1]; exact Blk.newA X1 _ (by first | rfl | simp)
  have c1_2 := c1_1.later bX2
  generalize hX3 : World.alloc X2 _ = X3
  have zX3 : X3.heap.size = w.heap.size + 1 + 1 + 1 := by rw [← hX3]; simp [zX2]
  have bX3 : Below X2.heap.size X2 X3 := by rw [← hX3]; exact bal X2 _
  have cR_3 : Blk X3 (w.heap.size + 1 + 1) [.int .i64 0, .int .i64 0, .int .i64 0, .int .i64 0, .slice (some ⟨w.heap.size, 0, none⟩) 2 2, .int .i64 3, .int .i64 0, .int .i64 0, .int .i64 0, .int .i64 0, .slice (some ⟨w.heap.size + 1, 0, none⟩) 2 2, .int .i64 (-2)] 67 := by rw [← hX3, ← zX2]; exact Blk.newA X2 _ (by first | rfl | simp)
  have c1_3 := c1_2.later bX3
  have c2_3 := c2_2.later bX3
  generalize hX4 : World.alloc X3 _ = X4
  have zX4 : X4.heap.size = w.heap.size + 1 + 1 + 1 + 1 := by rw [← hX4]; simp [zX3]
  have bX4 : Below X3.heap.size X3 X4 := by rw [← hX4]; exact bal X3 _
  have cG_4 : Blk X4 (w.heap.size + 1 + 1 + 1) [.int .i64 3, .int .i64 4] 3 := by rw [← hX4, ← zX3]; exact Blk.newA X3 _ (by first | rfl | simp)
  have c1_4 := c1_3.later bX4
  have c2_4 := c2_3.later bX4
  have cR_4 := cR_3.later bX4
  generalize hX5 : World.alloc X4 _ = X5
  have zX5 : X5.heap.size = w.heap.size + 1 + 1 + 1 + 1 + 1 := by rw [← hX5]; simp [zX4]
  have bX5 : Below X4.heap.size X4 X5 := by rw [← hX5]; exact bal X4 _
  have bP_5 : Blk X5 (w.heap.size + 1 + 1 + 1 + 1) [.int .i64 2, .slice (some ⟨w.heap.size + 1 + 1, 0, none⟩) 2 2, .slice (some ⟨w.heap.size + 1 + 1 + 1, 0, none⟩) 2 2] 27 := by rw [← hX5, ← zX4]; exact Blk.newA X4 _ (by first | rfl | simp)
  have c1_5 := c1_4.later bX5
  have c2_5 := c2_4.later bX5
  have cR_5 := cR_4.later bX5
  have cG_5 := cG_4.later bX5
  generalize hX6 : World.alloc X5 _ = X6
  have zX6 : X6.heap.size = w.heap.size + 1 + 1 + 1 + 1 + 1 + 1 := by rw [← hX6]; simp [zX5]
  have bX6 : Below X5.heap.size X5 X6 := by rw [← hX6]; exact bal X5 _
  have v1 : Blk X6 (w.heap.size + 1 + 1 + 1 + 1 + 1) [.int .i64 0, .int .i64 1, .int .i64 1, .int .i64 2] 56 := by rw [← hX6, ← zX5]; exact Blk.newA X5 _ (by first | rfl | simp)
  have c1 := c1_5.later bX6
  have c2 := c2_5.later bX6
  have cR := cR_5.later bX6
  have cG := cG_5.later bX6
  have bP := bP_5.later bX6
  have Xb := below2 (below2 (below2 (below2 (below2 (bX1) bX2) bX3) bX4) bX5) bX6
  have Xz := zX6
  clear hX1 zX1 bX1 hX2 zX2 bX2 hX3 zX3 bX3 hX4 zX4 bX4 hX5 zX5 bX5 hX6 zX6 bX6 c1_1 c1_2 c1_3 c1_4 c1_5 c2_2 c2_3 c2_4 c2_5 cR_3 cR_4 cR_5 cG_4 cG_5 bP_5
  have hG : IntsAt X6 (.slice (some ⟨w.heap.size + 1 + 1 + 1, 0, none⟩) 2 2) saP.gain := (cG.ints (l := [3, 4]) (B := 0) (Nat.zero_le _) (by decide)).keeps (keeps_frm _ _)
  have hR : RowsAt X6 (.slice (some ⟨w.heap.size + 1 + 1, 0, none⟩) 2 2) saP.rows := RowsIn.keeps (keeps_frm 0 _) (Blk.rows (L := [[.int .i64 0, .int .i64 0, .int .i64 0, .int .i64 0, .slice (some ⟨w.heap.size, 0, none⟩) 2 2, .int .i64 3], [.int .i64 0, .int .i64 0, .int .i64 0, .int .i64 0, .slice (some ⟨w.heap.size + 1, 0, none⟩) 2 2, .int .i64 (-2)]]) (l := saP.rows) cR (Nat.zero_le _) (by decide) (by intro r hr; simp at hr; rcases hr with rfl | rfl <;> rfl) rfl (fun i hi => by
    match i, hi with
    | 0, _ => exact ⟨_, rfl, c1.ints (l := [2, 2]) (Nat.zero_le _) (by decide)⟩
    | 1, _ => exact ⟨_, rfl, c2.ints (l := [-1, -1]) (Nat.zero_le _) (by decide)⟩))
  clear c1 c2 cR cG Xz
  refine (leafl_any _ _ _ _ X6 rfl).mono ?_
  rintro e w1 ⟨rfl, hb⟩
  have hw1 := below2 Xb hb
  have V1 := v1.later hb
  have P1 := bP.later hb
  have hR1 := hR.below hb
  have hG1 := hG.below hb
  clear hb Xb v1 bP hR hG
  go_wp2_with fail
  generalize hY1 : World.alloc w1 _ = Y1
  have zY1 : Y1.heap.size = w1.heap.size + 1 := by rw [← hY1]; simp
  have bY1 : Below w1.heap.size w1 Y1 := by rw [← hY1]; exact bal w1 _
  have s1_1 : Blk Y1 (w1.heap.size) [.int .i64 (-1), .int .i64 0, .int .i64 0, .slice (some ⟨w.heap.size + 1 + 1 + 1 + 1 + 1, 0, none⟩) 2 2] 54 := by rw [← hY1]; exact Blk.newA w1 _ (by first | rfl | simp)
  generalize hY2 : World.alloc Y1 _ = Y2
  have zY2 : Y2.heap.size = w1.heap.size + 1 + 1 := by rw [← hY2]; simp [zY1]
  have bY2 : Below Y1.heap.size Y1 Y2 := by rw [← hY2]; exact bal Y1 _
  have v2 : Blk Y2 (w1.heap.size + 1) [.int .i64 0, .int .i64 1] 56 := by rw [← hY2, ← zY1]; exact Blk.newA Y1 _ (by first | rfl | simp)
  have s1 := s1_1.later bY2
  have Yb := below2 (bY1) bY2
  have Yz := zY2
  clear hY1 zY1 bY1 hY2 zY2 bY2 s1_1
  have hOne : StepsIn Y2.cell? (.slice (some ⟨w1.heap.size, 0, none⟩) 1 1) saOne := Blk.steps (l := saOne) s1 (by decide) (fun k hk => by
    match k, hk with
    | 0, _ => exact ⟨_, rfl, rfl, rfl, rfl, (V1.later Yb).wts (l := [(0, 1), (1, 2)]) (by decide) (fun k hk => by
        match k, hk with
        | 0, _ => exact ⟨rfl, rfl⟩
        | 1, _ => exact ⟨rfl, rfl⟩)⟩)
  refine (leafl_any _ _ _ _ Y2 rfl).mono ?_
  rintro e w2 ⟨rfl, hb⟩
  have hb2 := below2 Yb hb
  have hw2 := below2 hw1 hb2
  have V2 := v2.later hb
  have P2 := P1.later hb2
  have hR2 := hR1.below hb2
  have hG2 := hG1.below hb2
  have O2 := hOne.keeps (keeps_of_below hb)
  have ySz := below2 Yb hb
  clear hb Yb v2 hOne s1 V1 P1 hR1 hG1 hb2 Yz
  go_wp2_with fail
  generalize hZ1 : World.alloc w2 _ = Z1
  have zZ1 : Z1.heap.size = w2.heap.size + 1 := by rw [← hZ1]; simp
  have bZ1 : Below w2.heap.size w2 Z1 := by rw [← hZ1]; exact bal w2 _
  have s2_1 : Blk Z1 (w2.heap.size) [.int .i64 (-1), .int .i64 0, .int .i64 0, .slice (some ⟨w1.heap.size + 1, 0, none⟩) 1 1] 54 := by rw [← hZ1]; exact Blk.newA w2 _ (by first | rfl | simp)
  generalize hZ2 : World.alloc Z1 _ = Z2
  have zZ2 : Z2.heap.size = w2.heap.size + 1 + 1 := by rw [← hZ2]; simp [zZ1]
  have bZ2 : Below Z1.heap.size Z1 Z2 := by rw [← hZ2]; exact bal Z1 _
  have v3 : Blk Z2 (w2.heap.size + 1) [.int .i64 1, .int .i64 1] 56 := by rw [← hZ2, ← zZ1]; exact Blk.newA Z1 _ (by first | rfl | simp)
  have s2 := s2_1.later bZ2
  have Zb := below2 (bZ1) bZ2
  have Zz := zZ2
  clear hZ1 zZ1 bZ1 hZ2 zZ2 bZ2 s2_1
  have hTwo : StepsIn Z2.cell? (.slice (some ⟨w2.heap.size, 0, none⟩) 1 1) saTwo := Blk.steps (l := saTwo) s2 (by decide) (fun k hk => by
    match k, hk with
    | 0, _ => exact ⟨_, rfl, rfl, rfl, rfl, (V2.later Zb).wts (l := [(0, 1)]) (by decide) (fun k hk => by
        match k, hk with
        | 0, _ => exact ⟨rfl, rfl⟩)⟩)
  refine (leafl_any _ _ _ _ Z2 rfl).mono ?_
  rintro e w3 ⟨rfl, hb⟩
  have hb3 := below2 Zb hb
  have hw3 := below2 hw2 hb3
  have V3 := v3.later hb
  have P3 := P2.later hb3
  have hR3 := hR2.below hb3
  have hG3 := hG2.below hb3
  have O3 := O2.keeps (keeps_of_below hb3)
  have T3 := hTwo.keeps (keeps_of_below hb)
  clear hb Zb v3 hTwo s2 V2 P2 hR2 hG2 hb3 O2 Zz
  go_wp2_with fail
  generalize hU1 : World.alloc w3 _ = U1
  have zU1 : U1.heap.size = w3.heap.size + 1 := by rw [← hU1]; simp
  have bU1 : Below w3.heap.size w3 U1 := by rw [← hU1]; exact bal w3 _
  have v4 : Blk U1 (w3.heap.size) [.int .i64 1, .int .i64 1] 56 := by rw [← hU1]; exact Blk.newA w3 _ (by first | rfl | simp)
  have Ub := bU1
  have Uz := zU1
  clear hU1 zU1 bU1
  refine (leafl_any _ _ _ _ U1 rfl).mono ?_
  rintro e w4 ⟨rfl, hb⟩
  have hb4 := below2 Ub hb
  have V4 := v4.later hb
  go_wp2_with fail
  generalize hV1 : World.alloc w4 _ = V1
  have zV1 : V1.heap.size = w4.heap.size + 1 := by rw [← hV1]; simp
  have bV1 : Below w4.heap.size w4 V1 := by rw [← hV1]; exact bal w4 _
  have v5 : Blk V1 (w4.heap.size) [.int .i64 0, .int .i64 1] 56 := by rw [← hV1]; exact Blk.newA w4 _ (by first | rfl | simp)
  have Vb := bV1
  have Vz := zV1
  clear hV1 zV1 bV1
  refine (leafl_any _ _ _ _ V1 rfl).mono ?_
  rintro e w5 ⟨rfl, hb'⟩
  have hb5 := below2 Vb hb'
  have hb35 := below2 hb4 hb5
  have hw5 := below2 hw3 hb35
  have V5 := v5.later hb'
  have W4 := V4.later hb5
  have W3 := V3.later hb35
  have P5 := P3.later hb35
  have hR5 := hR3.below hb35
  have hG5 := hG3.below hb35
  have O5 := O3.keeps (keeps_of_below hb35)
  have T5 := T3.keeps (keeps_of_below hb35)
  clear hb Ub Uz Vb Vz hb' v4 v5 hb4 hb5 hb35 V4 V3 P3 hR3 hG3 O3 T3
  go_upto_region 5 with (fail)
  generalize hD1 : World.alloc w5 _ = D1
  have zD1 : D1.heap.size = w5.heap.size + 1 := by rw [← hD1]; simp
  have bD1 : Below w5.heap.size w5 D1 := by rw [← hD1]; exact bal w5 _
  have s3 : Blk D1 (w5.heap.size) [.int .i64 0, .int .i64 1, .int .i64 2, .slice none 0 0, .int .i64 (-1), .int .i64 0, .int .i64 0, .slice (some ⟨w2.heap.size + 1, 0, none⟩) 1 1, .int .i64 1, .int .i64 3, .int .i64 4, .slice none 0 0, .int .i64 (-1), .int .i64 0, .int .i64 0, .slice (some ⟨w3.heap.size, 0, none⟩) 1 1, .int .i64 (-1), .int .i64 0, .int .i64 0, .slice (some ⟨w4.heap.size, 0, none⟩) 1 1] 54 := by rw [← hD1]; exact Blk.newA w5 _ (by first | rfl | simp)
  have Db := bD1
  have Dz := zD1
  clear hD1 zD1 bD1
  have hThree : StepsIn D1.cell? (.slice (some ⟨w5.heap.size, 0, none⟩) 5 5) saThree := Blk.steps (l := saThree) s3 (by decide) (fun k hk => by
    match k, hk with
    | 0, _ => exact ⟨_, rfl, rfl, rfl, rfl, WtsIn.empty _⟩
    | 1, _ => exact ⟨_, rfl, rfl, rfl, rfl, (W3.later Db).wts (l := [(1, 1)]) (by decide) (fun k hk => by
        match k, hk with
        | 0, _ => exact ⟨rfl, rfl⟩)⟩
    | 2, _ => exact ⟨_, rfl, rfl, rfl, rfl, WtsIn.empty _⟩
    | 3, _ => exact ⟨_, rfl, rfl, rfl, rfl, (W4.later Db).wts (l := [(1, 1)]) (by decide) (fun k hk => by
        match k, hk with
        | 0, _ => exact ⟨rfl, rfl⟩)⟩
    | 4, _ => exact ⟨_, rfl, rfl, rfl, rfl, (V5.later Db).wts (l := [(0, 1)]) (by decide) (fun k hk => by
        match k, hk with
        | 0, _ => exact ⟨rfl, rfl⟩)⟩)
  have hwD := below2 hw5 Db
  have PD := P5.later Db
  have hRD := hR5.below Db
  have hGD := hG5.below Db
  have OD := O5.keeps (keeps_of_below Db)
  have TD := T5.keeps (keeps_of_below Db)
  have p0 := PD.cell 0 rfl
  have p1 := PD.cell 1 rfl
  have p2 := PD.cell 2 rfl
  have lP := PD.lt
  have Db' := Below.refl D1.heap.size D1
  clear Dz s3 P5 hR5 hG5 O5 T5 W3 W4 V5 hw5 hw3 hw2 hw1
  go_wp2_with fail
  generalize hE1 : World.alloc D1 _ = E1
  have zE1 : E1.heap.size = D1.heap.size + 1 := by rw [← hE1]; simp
  have bE1 : Below D1.heap.size D1 E1 := by rw [← hE1]; exact bal D1 _
  have bQ_1 : Blk E1 (D1.heap.size) [.int .i64 2, .slice (some ⟨w.heap.size + 1 + 1, 0, none⟩) 1 2, .slice (some ⟨w.heap.size + 1 + 1 + 1, 0, none⟩) 2 2] 27 := by rw [← hE1]; exact Blk.newA D1 _ (by first | rfl | simp)
  generalize hE2 : World.alloc E1 _ = E2
  have zE2 : E2.heap.size = D1.heap.size + 1 + 1 := by rw [← hE2]; simp [zE1]
  have bE2 : Below E1.heap.size E1 E2 := by rw [← hE2]; exact bal E1 _
  have v6 : Blk E2 (D1.heap.size + 1) [.int .i64 0, .int .i64 2, .int .i64 1, .int .i64 1] 56 := by rw [← hE2, ← zE1]; exact Blk.newA E1 _ (by first | rfl | simp)
  have bQ := bQ_1.later bE2
  have Eb := below2 (bE1) bE2
  have Ez := zE2
  clear hE1 zE1 bE1 hE2 zE2 bE2 bQ_1
  have hRQ : RowsAt D1 (.slice (some ⟨w.heap.size + 1 + 1, 0, none⟩) 1 2) saQ.rows := by
    obtain ⟨a', n', e', -, -, hh⟩ := hRD
    injection e' with e1 e2 e3
    subst e1
    exact ⟨_, _, rfl, by decide, by decide, fun k hk => by
      match k, hk with
      | 0, _ => exact hh 0 (by decide)⟩
  refine (leafl_any _ _ _ _ E2 rfl).mono ?_
  rintro e w6 ⟨rfl, hb⟩
  have hb6 := below2 Eb hb
  have V6 := v6.later hb
  have P := PD.later hb6
  have Q := bQ.later hb
  have hR := hRD.below hb6
  have hG := hGD.below hb6
  replace hRQ := hRQ.below hb6
  have hO := OD.keeps (keeps_of_below hb6)
  have hT := TD.keeps (keeps_of_below hb6)
  have hH := hThree.keeps (keeps_of_below (below2 Db' hb6))
  have hw := below2 hwD hb6
  clear hb Eb Ez bQ v6 PD hRD hGD OD TD hThree hwD hb6 p0 p1 p2 lP
  go_wp2_with fail
  generalize hF1 : World.alloc w6 _ = F1
  have zF1 : F1.heap.size = w6.heap.size + 1 := by rw [← hF1]; simp
  have bF1 : Below w6.heap.size w6 F1 := by rw [← hF1]; exact bal w6 _
  have s4 : Blk F1 (w6.heap.size) [.int .i64 (-1), .int .i64 0, .int .i64 0, .slice (some ⟨D1.heap.size + 1, 0, none⟩) 2 2] 54 := by rw [← hF1]; exact Blk.newA w6 _ (by first | rfl | simp)
  have Fb := bF1
  have Fz := zF1
  clear hF1 zF1 bF1
  have hL : StepsIn F1.cell? (.slice (some ⟨w6.heap.size, 0, none⟩) 1 1) saGoal := Blk.steps (l := saGoal) s4 (by decide) (fun k hk => by
    match k, hk with
    | 0, _ => exact ⟨_, rfl, rfl, rfl, rfl, (V6.later Fb).wts (l := [(0, 2), (1, 1)]) (by decide) (fun k hk => by
        match k, hk with
        | 0, _ => exact ⟨rfl, rfl⟩
        | 1, _ => exact ⟨rfl, rfl⟩)⟩)
  replace P := P.later Fb
  replace Q := Q.later Fb
  replace hR := hR.below Fb
  replace hG := hG.below Fb
  replace hRQ := hRQ.below Fb
  replace hO := hO.keeps (keeps_of_below Fb)
  replace hT := hT.keeps (keeps_of_below Fb)
  replace hH := hH.keeps (keeps_of_below Fb)
  have hw := below2 hw Fb
  clear Fb Fz s4 V6
  refine (sizep_any saThree _ F1 hH).mono ?_
  rw [show leavesN saThree saThree.length = 3 from sa_facts2.2.2.2]
  rintro e w7 ⟨rfl, hb7⟩
  have p0 := P.cell 0 rfl
  have p1 := P.cell 1 rfl
  have p2 := P.cell 2 rfl
  have q0 := Q.cell 0 rfl
  have q1 := Q.cell 1 rfl
  have q2 := Q.cell 2 rfl
  have lP := P.lt
  have lQ := Q.lt
  replace P := P.later hb7
  replace Q := Q.later hb7
  replace hR := hR.below hb7
  replace hG := hG.below hb7
  replace hRQ := hRQ.below hb7
  replace hO := hO.keeps (keeps_of_below hb7)
  replace hT := hT.keeps (keeps_of_below hb7)
  replace hH := hH.keeps (keeps_of_below hb7)
  replace hL := hL.keeps (keeps_of_below hb7)
  replace p0 := P.cell 0 rfl
  replace p1 := P.cell 1 rfl
  replace p2 := P.cell 2 rfl
  replace q0 := Q.cell 0 rfl
  replace q1 := Q.cell 1 rfl
  replace q2 := Q.cell 2 rfl
  replace lP := P.lt
  replace lQ := Q.lt
  replace hw := below2 hw hb7
  clear hb7
  go_wp2_with fail
  refine (refutesp_any saP _ _ saOne _ w7 hR hG hO).mono ?_
  rw [sa_facts.1]
  rintro e w8 ⟨rfl, hb8⟩
  replace P := P.later hb8
  replace Q := Q.later hb8
  replace hR := hR.below hb8
  replace hG := hG.below hb8
  replace hRQ := hRQ.below hb8
  replace hO := hO.keeps (keeps_of_below hb8)
  replace hT := hT.keeps (keeps_of_below hb8)
  replace hH := hH.keeps (keeps_of_below hb8)
  replace hL := hL.keeps (keeps_of_below hb8)
  replace p0 := P.cell 0 rfl
  replace p1 := P.cell 1 rfl
  replace p2 := P.cell 2 rfl
  replace q0 := Q.cell 0 rfl
  replace q1 := Q.cell 1 rfl
  replace q2 := Q.cell 2 rfl
  replace lP := P.lt
  replace lQ := Q.lt
  replace hw := below2 hw hb8
  go_wp2_with fail
  refine (refutesp_any saP _ _ saTwo _ w8 hR hG hT).mono ?_
  rw [sa_facts.2.1]
  rintro e w9 ⟨rfl, hb9⟩
  replace P := P.later hb9
  replace Q := Q.later hb9
  replace hR := hR.below hb9
  replace hG := hG.below hb9
  replace hRQ := hRQ.below hb9
  replace hO := hO.keeps (keeps_of_below hb9)
  replace hT := hT.keeps (keeps_of_below hb9)
  replace hH := hH.keeps (keeps_of_below hb9)
  replace hL := hL.keeps (keeps_of_below hb9)
  replace p0 := P.cell 0 rfl
  replace p1 := P.cell 1 rfl
  replace p2 := P.cell 2 rfl
  replace q0 := Q.cell 0 rfl
  replace q1 := Q.cell 1 rfl
  replace q2 := Q.cell 2 rfl
  replace lP := P.lt
  replace lQ := Q.lt
  replace hw := below2 hw hb9
  go_wp2_with fail
  refine (refutesp_any saP _ _ saThree _ w9 hR hG hH).mono ?_
  rw [sa_facts.2.2.1]
  rintro e w10 ⟨rfl, hb10⟩
  replace P := P.later hb10
  replace Q := Q.later hb10
  replace hR := hR.below hb10
  replace hG := hG.below hb10
  replace hRQ := hRQ.below hb10
  replace hO := hO.keeps (keeps_of_below hb10)
  replace hT := hT.keeps (keeps_of_below hb10)
  replace hH := hH.keeps (keeps_of_below hb10)
  replace hL := hL.keeps (keeps_of_below hb10)
  replace p0 := P.cell 0 rfl
  replace p1 := P.cell 1 rfl
  replace p2 := P.cell 2 rfl
  replace q0 := Q.cell 0 rfl
  replace q1 := Q.cell 1 rfl
  replace q2 := Q.cell 2 rfl
  replace lP := P.lt
  replace lQ := Q.lt
  replace hw := below2 hw hb10
  go_wp2_with fail
  refine (wrong_any saP _ _ saOne _ w10 hR hG hO).mono ?_
  rw [sa_facts.2.2.2.1]
  rintro e w11 ⟨rfl, hb11⟩
  replace P := P.later hb11
  replace Q := Q.later hb11
  replace hR := hR.below hb11
  replace hG := hG.below hb11
  replace hRQ := hRQ.below hb11
  replace hO := hO.keeps (keeps_of_below hb11)
  replace hT := hT.keeps (keeps_of_below hb11)
  replace hH := hH.keeps (keeps_of_below hb11)
  replace hL := hL.keeps (keeps_of_below hb11)
  replace p0 := P.cell 0 rfl
  replace p1 := P.cell 1 rfl
  replace p2 := P.cell 2 rfl
  replace q0 := Q.cell 0 rfl
  replace q1 := Q.cell 1 rfl
  replace q2 := Q.cell 2 rfl
  replace lP := P.lt
  replace lQ := Q.lt
  replace hw := below2 hw hb11
  go_wp2_with fail
  refine (wrong_any saP _ _ saTwo _ w11 hR hG hT).mono ?_
  rw [sa_facts.2.2.2.2.1]
  rintro e w12 ⟨rfl, hb12⟩
  replace P := P.later hb12
  replace Q := Q.later hb12
  replace hR := hR.below hb12
  replace hG := hG.below hb12
  replace hRQ := hRQ.below hb12
  replace hO := hO.keeps (keeps_of_below hb12)
  replace hT := hT.keeps (keeps_of_below hb12)
  replace hH := hH.keeps (keeps_of_below hb12)
  replace hL := hL.keeps (keeps_of_below hb12)
  replace p0 := P.cell 0 rfl
  replace p1 := P.cell 1 rfl
  replace p2 := P.cell 2 rfl
  replace q0 := Q.cell 0 rfl
  replace q1 := Q.cell 1 rfl
  replace q2 := Q.cell 2 rfl
  replace lP := P.lt
  replace lQ := Q.lt
  replace hw := below2 hw hb12
  go_wp2_with fail
  refine (wrong_any ⟨-1, [], []⟩ (.slice none 0 0) (.slice none 0 0) saOne _ w12 (RowsIn.empty _) (IntsIn.nil _) hO).mono ?_
  rw [sa_facts.2.2.2.2.2.1]
  rintro e w13 ⟨rfl, hb13⟩
  replace P := P.later hb13
  replace Q := Q.later hb13
  replace hR := hR.below hb13
  replace hG := hG.below hb13
  replace hRQ := hRQ.below hb13
  replace hO := hO.keeps (keeps_of_below hb13)
  replace hT := hT.keeps (keeps_of_below hb13)
  replace hH := hH.keeps (keeps_of_below hb13)
  replace hL := hL.keeps (keeps_of_below hb13)
  replace p0 := P.cell 0 rfl
  replace p1 := P.cell 1 rfl
  replace p2 := P.cell 2 rfl
  replace q0 := Q.cell 0 rfl
  replace q1 := Q.cell 1 rfl
  replace q2 := Q.cell 2 rfl
  replace lP := P.lt
  replace lQ := Q.lt
  replace hw := below2 hw hb13
  go_wp2_with fail
  refine (wrong_any saP _ _ [] _ w13 hR hG (StepsIn.nil _)).mono ?_
  rw [sa_facts.2.2.2.2.2.2]
  rintro e w14 ⟨rfl, hb14⟩
  replace P := P.later hb14
  replace Q := Q.later hb14
  replace hR := hR.below hb14
  replace hG := hG.below hb14
  replace hRQ := hRQ.below hb14
  replace hO := hO.keeps (keeps_of_below hb14)
  replace hT := hT.keeps (keeps_of_below hb14)
  replace hH := hH.keeps (keeps_of_below hb14)
  replace hL := hL.keeps (keeps_of_below hb14)
  replace p0 := P.cell 0 rfl
  replace p1 := P.cell 1 rfl
  replace p2 := P.cell 2 rfl
  replace q0 := Q.cell 0 rfl
  replace q1 := Q.cell 1 rfl
  replace q2 := Q.cell 2 rfl
  replace lP := P.lt
  replace lQ := Q.lt
  replace hw := below2 hw hb14
  go_wp2_with fail
  refine (bounds_any saQ _ _ saGoal _ 6 w14 hRQ hG hL (by decide) (by decide)).mono ?_
  rw [sa_facts2.1]
  rintro e w15 ⟨rfl, hb15⟩
  replace P := P.later hb15
  replace Q := Q.later hb15
  replace hR := hR.below hb15
  replace hG := hG.below hb15
  replace hRQ := hRQ.below hb15
  replace hO := hO.keeps (keeps_of_below hb15)
  replace hT := hT.keeps (keeps_of_below hb15)
  replace hH := hH.keeps (keeps_of_below hb15)
  replace hL := hL.keeps (keeps_of_below hb15)
  replace p0 := P.cell 0 rfl
  replace p1 := P.cell 1 rfl
  replace p2 := P.cell 2 rfl
  replace q0 := Q.cell 0 rfl
  replace q1 := Q.cell 1 rfl
  replace q2 := Q.cell 2 rfl
  replace lP := P.lt
  replace lQ := Q.lt
  replace hw := below2 hw hb15
  go_wp2_with fail
  refine (bounds_any saQ _ _ saGoal _ 5 w15 hRQ hG hL (by decide) (by decide)).mono ?_
  rw [sa_facts2.2.1]
  rintro e w16 ⟨rfl, hb16⟩
  replace P := P.later hb16
  replace Q := Q.later hb16
  replace hR := hR.below hb16
  replace hG := hG.below hb16
  replace hRQ := hRQ.below hb16
  replace hO := hO.keeps (keeps_of_below hb16)
  replace hT := hT.keeps (keeps_of_below hb16)
  replace hH := hH.keeps (keeps_of_below hb16)
  replace hL := hL.keeps (keeps_of_below hb16)
  replace p0 := P.cell 0 rfl
  replace p1 := P.cell 1 rfl
  replace p2 := P.cell 2 rfl
  replace q0 := Q.cell 0 rfl
  replace q1 := Q.cell 1 rfl
  replace q2 := Q.cell 2 rfl
  replace lP := P.lt
  replace lQ := Q.lt
  replace hw := below2 hw hb16
  go_wp2_with fail
  refine (refutesp_any saQ _ _ saGoal _ w16 hRQ hG hL).mono ?_
  rw [sa_facts2.2.2.1]
  rintro e w17 ⟨rfl, hb17⟩
  replace P := P.later hb17
  replace Q := Q.later hb17
  replace hR := hR.below hb17
  replace hG := hG.below hb17
  replace hRQ := hRQ.below hb17
  replace hO := hO.keeps (keeps_of_below hb17)
  replace hT := hT.keeps (keeps_of_below hb17)
  replace hH := hH.keeps (keeps_of_below hb17)
  replace hL := hL.keeps (keeps_of_below hb17)
  replace p0 := P.cell 0 rfl
  replace p1 := P.cell 1 rfl
  replace p2 := P.cell 2 rfl
  replace q0 := Q.cell 0 rfl
  replace q1 := Q.cell 1 rfl
  replace q2 := Q.cell 2 rfl
  replace lP := P.lt
  replace lQ := Q.lt
  replace hw := below2 hw hb17
  go_wp2_with fail
  refine (rowsp_any saP _ _ saOne _ w17 hR hG hO).mono ?_
  rw [sa_used.1]
  rintro e w18 ⟨v, rfl, hv, hb18⟩
  obtain ⟨va, vc, rfl, -⟩ := id hv
  have hv18 : IntsAt w18 _ _ := hv.keeps (keeps_frm _ _)
  replace P := P.later hb18
  replace Q := Q.later hb18
  replace hR := hR.below hb18
  replace hG := hG.below hb18
  replace hRQ := hRQ.below hb18
  replace hO := hO.keeps (keeps_of_below hb18)
  replace hT := hT.keeps (keeps_of_below hb18)
  replace hH := hH.keeps (keeps_of_below hb18)
  replace hL := hL.keeps (keeps_of_below hb18)
  replace p0 := P.cell 0 rfl
  replace p1 := P.cell 1 rfl
  replace p2 := P.cell 2 rfl
  replace q0 := Q.cell 0 rfl
  replace q1 := Q.cell 1 rfl
  replace q2 := Q.cell 2 rfl
  replace lP := P.lt
  replace lQ := Q.lt
  replace hw := below2 hw hb18
  clear hv
  go_wp2_with fail
  generalize hG1 : World.alloc w18 _ = G1
  have zG1 : G1.heap.size = w18.heap.size + 1 := by rw [← hG1]; simp
  have bG1 : Below w18.heap.size w18 G1 := by rw [← hG1]; exact bal w18 _
  have i2 : Blk G1 (w18.heap.size) [.int .i64 0, .int .i64 1] 3 := by rw [← hG1]; exact Blk.newA w18 _ (by first | rfl | simp)
  have Gb := bG1
  have Gz := zG1
  clear hG1 zG1 bG1
  refine (ints_any [0, 1] [0, 1] _ _ G1 (hv18.below Gb) ((i2.ints (l := [0, 1]) (B := 0) (Nat.zero_le _) (by decide)).keeps (keeps_frm _ _))).mono ?_
  rw [show intsB [0, 1] [0, 1] = true from rfl]
  rintro e w19 ⟨rfl, hb19⟩
  have hb1819 := below2 Gb hb19
  replace P := P.later hb1819
  replace Q := Q.later hb1819
  replace hR := hR.below hb1819
  replace hG := hG.below hb1819
  replace hRQ := hRQ.below hb1819
  replace hO := hO.keeps (keeps_of_below hb1819)
  replace hT := hT.keeps (keeps_of_below hb1819)
  replace hH := hH.keeps (keeps_of_below hb1819)
  replace hL := hL.keeps (keeps_of_below hb1819)
  replace p0 := P.cell 0 rfl
  replace p1 := P.cell 1 rfl
  replace p2 := P.cell 2 rfl
  replace q0 := Q.cell 0 rfl
  replace q1 := Q.cell 1 rfl
  replace q2 := Q.cell 2 rfl
  replace lP := P.lt
  replace lQ := Q.lt
  replace hw := below2 hw hb1819
  clear Gb Gz i2 hv18
  go_wp2_with fail
  refine (rowsp_any saP _ _ saTwo _ w19 hR hG hT).mono ?_
  rw [sa_used.2]
  rintro e w20 ⟨v, rfl, hv, hb20⟩
  obtain ⟨va', vc', rfl, -⟩ := id hv
  replace hw := below2 hw hb20
  clear hv
  go_wp2_with fail
  go_ret
  exact ⟨rfl, hw⟩
end Go.Proofs.Ytppfdjjhloaopaa
/- Appends of many records to slices of a call's own; rows of its own whose coefficients lie elsewhere. No condition. -/
namespace Go.Proofs.Ytppfdjjhloaopaa
open Go.RowKit

theorem below_own {W w' : World} {B : Nat} {e : TypeId} {k : Nat} {v : Value} {L : List (List Value)} (hown : OwnR W B e k v L) (hB : B ≤ W.heap.size) (hg : W.grownBy w' v.ownBlock) : Below B W w' :=
  (Below.refl B W).grown hg hB (fun k hk => (World.ownsRow.lt hown.1 k hk).1)
theorem run_app_nil {w : World} (base : Nat) (t ty e : TypeId) (i : TypeInfo) (size : Nat) (ht : Try.prog.underlying t = some (.slice e)) (hi : Try.prog.info? e = some i)
    (v : Value) (n : Nat) (xs : List Value) (hown : w.ownsRow base e size v n xs) (c : Nat) : (Builtin.append_ #[t, t] ty #[v, .slice none 0 c]).run Try.prog w = .ok v w := by
  rcases hown.2 with ⟨rfl, rfl⟩ | ⟨g, cap, cur, rfl, _, _, hnc, _⟩
  · simp [Builtin.append_, run_underlying ht, sizeOf, typeInfo, hi, Builtin.lenOf, Builtin.firstCells]
  · simp [Builtin.append_, run_underlying ht, sizeOf, typeInfo, hi, Builtin.lenOf, Builtin.firstCells, hnc, storeCells]
theorem step_app_recs {W : World} {ops : Array Oper} {o : Oper} {a : Act} {K : Act → World → Prop} {Q : Exit → Act → World → Prop} {E : Prop} {e t : TypeId} {k by_ : Nat} {z : Value}
    (hinfo : (Try.prog.info? e).map (fun i => (i.zero, i.size, i.bytes)) = some (some z, k, by_)) (hzk : z.cells.size = k) (hk : 0 < k) (hu : Try.prog.underlying t = some (.slice e)) (hgd : o.guard = none) (s x : Operand)
    (ho : o.op = .call { callee := .builtin .append, args := #[s, x], argTypes := #[t, t] }) (B : Nat) (v : Value) (L : List (List Value)) (hs : a.eval s = v) (hown : OwnR W B e k v L)
    (xa : Option Addr) (m c : Nat) (Lx : List (List Value)) (hm : m = Lx.length) (hx : a.eval x = .slice xa m c) (h6 : ∀ r ∈ Lx, r.length = k) (hone : ∀ u ∈ Lx.flatten, u.oneCell' = true)
    (hcells : ∀ b, xa = some b → ∀ j u, Lx.flatten[j]? = some u → W.cell? (b.add j) = some u) (hnone : xa = none → Lx = []) (hlen : (L.length + Lx.length) * by_ ≤ 140737488355328) (hlen2 : L.length + Lx.length < 1000000) (hB : B ≤ W.heap.size)
    (h : ∀ v' w', OwnR w' B e k v' (L ++ Lx) → Below B W w' → K (a.put o.dst v') w') :
    if Region.wanted o (yielded ops a.tmps) = true then Oper.wp Try.prog o a W K Q else E := by
  subst hm
  have hw : Region.wanted o (yielded ops a.tmps) = true := by simp [Region.wanted, hgd]
  rw [if_pos hw]
  obtain ⟨i0, hi, hz0, hz1, hz2⟩ := info_parts hinfo
  cases xa with
  | none =>
    obtain rfl := hnone rfl
    have hrun := run_app_nil B t o.type e i0 k hu hi v L.length L.flatten hown.1 c
    have hx' : a.eval x = .slice none 0 c := hx
    unfold Oper.wp
    simp [execOp, ho, resolve, invoke, builtin, hs, hx', hrun, Result.andThen]
    exact h v W (by simpa using hown) (Below.refl _ _)
  | some ad =>
    refine wp_append_own _ s x t ho B e i0 z k by_ hu hi hz0 hz1 hz2 hzk hk v L.length L.flatten hs hown.1 ad Lx.length c Lx.flatten hx (flat_len h6) (hcells ad rfl) hone (by unfold maxLen; omega) hlen hB ?_
    intro v' w' hown' hg _
    refine h v' w' ⟨by simpa using hown', fun r hr => ?_⟩ (below_own hown hB hg)
    rcases List.mem_append.1 hr with h1 | h1
    · exact hown.2 r h1
    · exact h6 r h1
theorem own_form {W : World} {B : Nat} {e : TypeId} {k : Nat} {v : Value} {L : List (List Value)} (h : OwnR W B e k v L) {n : Nat} (hn : L.length = n) : ∃ a c, v = .slice a n c := by
  subst hn
  rcases h.form with ⟨h1, h2⟩ | ⟨g, c, cur, h1, -⟩
  · exact ⟨none, 0, by rw [h1, h2]; rfl⟩
  · exact ⟨_, _, h1⟩
theorem lit_recs (w : World) (e : TypeId) (k : Nat) {B : Nat} (hB : B ≤ w.heap.size) : OwnR (w.alloc (.cells #[] e)) B e k (.slice (some ⟨w.heap.size, 0, none⟩) 0 0) [] :=
  ⟨World.ownsRow_lit w #[] 0 hB (by unfold maxLen; omega) (by simp), fun r hr => by cases hr⟩
/-- rows of the call's own (from block B on), their coefficients below block C -/
def RowsMix (w : World) (B C : Nat) (v : Value) (l : List RowD) : Prop :=
  ∃ L, OwnR w B 67 6 v L ∧ L.length = l.length ∧ ∀ i, i < l.length → ∃ cv, L.getD i [] = rowCells (l.getD i row0) cv ∧ IntsIn (rng 0 C w) cv (l.getD i row0).coef
theorem RowsMix.rows {w : World} {B C : Nat} {v : Value} {l : List RowD} (h : RowsMix w B C v l) : RowsAt w v l := by
  obtain ⟨L, h1, h2, h3⟩ := h
  exact h1.rows h2 fun i hi => let ⟨cv, e, hc⟩ := h3 i hi; ⟨cv, e, hc.keeps (keeps_rng 0 C w)⟩
theorem ints_low {w : World} {C : Nat} {v : Value} {l : List Int} (hC : w.heap.size ≤ C) (h : IntsAt w v l) : IntsIn (rng 0 C w) v l := by
  obtain ⟨a, n, h1, h2, h3, h4⟩ := h
  refine ⟨a, n, h1, h2, h3, fun k hk => ?_⟩
  obtain ⟨b, o, e, hc⟩ := h4 k hk
  refine ⟨b, o, e, ?_⟩
  unfold rng
  rw [if_pos ⟨Nat.zero_le _, by have := lt_of_cell hc; show b < C; have h5 : b < w.heap.size := this; omega⟩]
  exact hc
theorem RowsMix.later {w w' : World} {B C : Nat} {v : Value} {l : List RowD} (h : RowsMix w B C v l) (hb : Below w.heap.size w w') (hC : C ≤ w.heap.size) : RowsMix w' B C v l := by
  obtain ⟨L, h1, h2, h3⟩ := h
  exact ⟨L, h1.later' hb, h2, fun i hi => let ⟨cv, e, hc⟩ := h3 i hi; ⟨cv, e, hc.keeps (keeps_rng_later fun k _ h => hb.block k (by omega))⟩⟩
theorem RowsMix.form {w : World} {B C : Nat} {v : Value} {l : List RowD} (h : RowsMix w B C v l) : (v = .slice none 0 0 ∧ l = []) ∨ ∃ g c, v = .slice (some ⟨g, 0, none⟩) l.length c ∧ B ≤ g := by
  obtain ⟨L, h1, h2, -⟩ := h
  rcases h1.form with ⟨e1, e2⟩ | ⟨g, c, cur, e1, e2, -⟩
  · exact .inl ⟨e1, by rw [e2] at h2; exact List.length_eq_zero_iff.1 h2.symm⟩
  · exact .inr ⟨g, c, by rw [e1, h2], e2⟩
/-- a part of a slice of rows, as records -/
theorem rows_from {c : Rd} {ra : Option Addr} {rc : Nat} {l : List RowD} (h : RowsIn c (.slice ra l.length rc) l) : ∃ Lr : List (List Value), Lr.length = l.length ∧ (∀ r ∈ Lr, r.length = 6) ∧ (∀ u ∈ Lr.flatten, u.oneCell' = true) ∧
    (∀ i, i < l.length → ∃ cv, Lr.getD i [] = rowCells (l.getD i row0) cv ∧ IntsIn c cv (l.getD i row0).coef) ∧
    (∀ K, K ≤ l.length → (∀ b, (if rc = K then ra else ra.map fun x => x.add (K * 6)) = some b → ∀ j u, (Lr.drop K).flatten[j]? = some u → c (b.add j) = some u) ∧ ((if rc = K then ra else ra.map fun x => x.add (K * 6)) = none → Lr.drop K = [])) ∧
    (∀ K, (∀ b, ra = some b → ∀ j u, (Lr.take K).flatten[j]? = some u → c (b.add j) = some u) ∧ (ra = none → Lr.take K = [])) := by
  obtain ⟨Lr, h1, h2, h3, h4, h5⟩ := rows_list h
  obtain ⟨a, n, e, hn1, hn2, hpos⟩ := id h
  cases e
  have hone : ∀ u ∈ Lr.flatten, u.oneCell' = true := fun u hu => by
    obtain ⟨r, hr, hur⟩ := List.mem_flatten.1 hu
    obtain ⟨i, hi, rfl⟩ := List.getElem_of_mem hr
    obtain ⟨cv, e, hc⟩ := h3 i (by omega)
    rw [List.getD_eq_getElem?_getD, List.getElem?_eq_getElem hi] at e
    simp at e
    rw [e] at hur
    obtain ⟨p, q, rfl, -⟩ := hc
    exact cells6 u hur
  refine ⟨Lr, h1, h2, hone, h3, fun K hK => ⟨fun b hb j u hj => ?_, fun hn => ?_⟩, fun K => ⟨fun b hb j u hj => ?_, fun hn => ?_⟩⟩
  · have hlt := (List.getElem?_eq_some_iff.1 hj).1
    have hd : (Lr.drop K).flatten.length = (Lr.length - K) * 6 := by rw [flat_len (k := 6) (fun r hr => h2 r (List.mem_of_mem_drop hr)), List.length_drop]
    have hKl : K < l.length := by
      refine Decidable.byContradiction fun hn => ?_
      rw [hd, h1, show l.length - K = 0 by omega] at hlt
      omega
    obtain ⟨b0, o0, cv, e0, -⟩ := hpos 0 (by omega)
    have hfl : Lr.flatten[K * 6 + j]? = some u := by
      have hsp : Lr.flatten = (Lr.take K).flatten ++ (Lr.drop K).flatten := by rw [← List.flatten_append, List.take_append_drop]
      have ht : (Lr.take K).flatten.length = K * 6 := by rw [flat_len (k := 6) (fun r hr => h2 r (List.mem_of_mem_take hr)), List.length_take, h1, Nat.min_eq_left hK]
      rw [hsp, List.getElem?_append_right (by omega), ht, show K * 6 + j - K * 6 = j by omega]
      exact hj
    have h6 := h4 _ e0 _ _ hfl
    rw [if_neg (by omega), e0] at hb
    simp only [Option.map_some, Option.some.injEq] at hb
    subst hb
    have ea : ((⟨b0, o0, none⟩ : Addr).add (K * 6)).add j = (⟨b0, o0, none⟩ : Addr).add (K * 6 + j) := by
      have ap : ∀ x y, (⟨b0, x, none⟩ : Addr).add y = ⟨b0, x + y, none⟩ := fun x y => by cases y <;> simp [Addr.add]
      rw [ap, ap, ap, Nat.add_assoc]
    rw [ea]; exact h6
  · by_cases hr : rc = K
    · have : Lr.length ≤ K := by omega
      exact List.drop_eq_nil_of_le this
    · rw [if_neg hr] at hn
      have hra : ra = none := by cases ra with
        | none => rfl
        | some x => simp at hn
      have := h5 hra
      rw [this] at h1
      rw [List.length_eq_zero_iff.1 h1]; simp
  · obtain ⟨m, hm⟩ : ∃ m, Lr.flatten = (Lr.take K).flatten ++ m := ⟨(Lr.drop K).flatten, by rw [← List.flatten_append, List.take_append_drop]⟩
    refine h4 b hb j u ?_
    rw [hm, List.getElem?_append_left (List.getElem?_eq_some_iff.1 hj).1]; exact hj
  · have := h5 hn
    rw [this] at h1
    rw [List.length_eq_zero_iff.1 h1]; simp
theorem getD_set_if {α : Type} (l : List α) (i j : Nat) (x d : α) (hi : i < l.length) : (l.set i x).getD j d = if j = i then x else l.getD j d := by
  by_cases h : j = i
  · subst h; rw [if_pos rfl, List.getD_eq_getElem?_getD, List.getElem?_set_self hi]; rfl
  · rw [if_neg h, List.getD_eq_getElem?_getD, List.getElem?_set_ne (Ne.symm h), List.getD_eq_getElem?_getD]
theorem RowsMix.setO {w : World} {B C b j : Nat} {v : Value} {l : List RowD} (h : RowsMix w B C v l) (hC : C ≤ b) (hB : b < B) (u : Value) : RowsMix (w.setCell ⟨b, j, none⟩ u) B C v l := by
  obtain ⟨L, h1, h2, h3⟩ := h
  exact ⟨L, ⟨ownsRow_setCell_below h1.1 hB u, h1.2⟩, h2, fun i hi => let ⟨cv, e, hc⟩ := h3 i hi; ⟨cv, e, hc.keeps (keeps_rng_later fun k _ hk => Below.heap_setCell _ _ _ _ (by show k ≠ b; omega))⟩⟩
/-- four cells of a row set anew -/
theorem RowsMix.name {w : World} {B C g c : Nat} {l : List RowD} (h : RowsMix w B C (.slice (some ⟨g, 0, none⟩) l.length c) l) (hCB : C ≤ B) {i : Nat} (hi : i < l.length) (u0 u1 u2 u3 : Int) :
    RowsMix (World.setCell (World.setCell (World.setCell (World.setCell w ⟨g, i * 6, none⟩ (.int .i64 u0)) ⟨g, i * 6 + 1, none⟩ (.int .i64 u1)) ⟨g, i * 6 + 2, none⟩ (.int .i64 u2)) ⟨g, i * 6 + 3, none⟩ (.int .i64 u3)) B C (.slice (some ⟨g, 0, none⟩) l.length c) (l.set i ⟨u0, u1, u2, u3, (l.getD i row0).coef, (l.getD i row0).most⟩) ∧
    (∀ w0, Below B w0 w → Below B w0 (World.setCell (World.setCell (World.setCell (World.setCell w ⟨g, i * 6, none⟩ (.int .i64 u0)) ⟨g, i * 6 + 1, none⟩ (.int .i64 u1)) ⟨g, i * 6 + 2, none⟩ (.int .i64 u2)) ⟨g, i * 6 + 3, none⟩ (.int .i64 u3))) := by
  obtain ⟨L, hO, hl, hs⟩ := h
  have hBg : B ≤ g := by
    rcases hO.form with ⟨e, -⟩ | ⟨g', c', cur, e, hb, -⟩
    · cases e
    · injection e with e1
      injection e1 with e2
      injection e2 with e3
      omega
  have hb : ∀ w0, Below B w0 w → Below B w0 (World.setCell (World.setCell (World.setCell (World.setCell w ⟨g, i * 6, none⟩ (.int .i64 u0)) ⟨g, i * 6 + 1, none⟩ (.int .i64 u1)) ⟨g, i * 6 + 2, none⟩ (.int .i64 u2)) ⟨g, i * 6 + 3, none⟩ (.int .i64 u3)) := fun w0 h => (((h.setCell (p := ⟨g, i * 6, none⟩) hBg _).setCell (p := ⟨g, i * 6 + 1, none⟩) hBg _).setCell (p := ⟨g, i * 6 + 2, none⟩) hBg _).setCell (p := ⟨g, i * 6 + 3, none⟩) hBg _
  refine ⟨?_, hb⟩
  obtain ⟨cv, e, hc⟩ := hs i hi
  rw [← hl] at hO
  have hi' : i < L.length := by omega
  have e1 : ∀ (x : List Value), (L.set i x).length = L.length := fun x => List.length_set
  have h0 := hO.set i 0 hi' (by omega) (.int .i64 u0)
  rw [← e1 ((L.getD i []).set 0 (.int .i64 u0))] at h0
  have h1 := h0.set i 1 (by rw [e1]; exact hi') (by omega) (.int .i64 u1)
  rw [getD_set_if _ _ _ _ _ hi', if_pos rfl, List.set_set, e1] at h1
  rw [← e1 (((L.getD i []).set 0 (.int .i64 u0)).set 1 (.int .i64 u1))] at h1
  have h2 := h1.set i 2 (by rw [e1]; exact hi') (by omega) (.int .i64 u2)
  rw [getD_set_if _ _ _ _ _ hi', if_pos rfl, List.set_set, e1] at h2
  rw [← e1 ((((L.getD i []).set 0 (.int .i64 u0)).set 1 (.int .i64 u1)).set 2 (.int .i64 u2))] at h2
  have h3 := h2.set i 3 (by rw [e1]; exact hi') (by omega) (.int .i64 u3)
  rw [getD_set_if _ _ _ _ _ hi', if_pos rfl, List.set_set, e1, hl] at h3
  refine ⟨_, h3, by rw [e1, List.length_set, hl], fun j hj => ?_⟩
  rw [List.length_set] at hj
  have hk : Keeps (rng 0 C w) (rng 0 C (World.setCell (World.setCell (World.setCell (World.setCell w ⟨g, i * 6, none⟩ (.int .i64 u0)) ⟨g, i * 6 + 1, none⟩ (.int .i64 u1)) ⟨g, i * 6 + 2, none⟩ (.int .i64 u2)) ⟨g, i * 6 + 3, none⟩ (.int .i64 u3))) :=
    keeps_rng_later fun k _ hk => (hb w (Below.refl _ _)).block k (by omega)
  rw [getD_set_if _ _ _ _ _ hi', getD_set_if _ _ _ _ _ hi]
  by_cases hji : j = i
  · rw [if_pos hji, if_pos hji, e]
    exact ⟨cv, rfl, hc.keeps hk⟩
  · rw [if_neg hji, if_neg hji]
    obtain ⟨cv', e', hc'⟩ := hs j hj
    exact ⟨cv', e', hc'.keeps hk⟩
theorem rowCells_one {r : RowD} {a : Option Addr} {n c : Nat} : ∀ u ∈ rowCells r (.slice a n c), u.oneCell' = true := cells6
end Go.Proofs.Ytppfdjjhloaopaa
/- Appends of many records, with all that they leave as it was. No condition. -/
namespace Go.Proofs.Ytppfdjjhloaopaa
open Go.RowKit

theorem step_app_recs2 {W : World} {ops : Array Oper} {o : Oper} {a : Act} {K : Act → World → Prop} {Q : Exit → Act → World → Prop} {E : Prop} {e t : TypeId} {k by_ : Nat} {z : Value}
    (hinfo : (Try.prog.info? e).map (fun i => (i.zero, i.size, i.bytes)) = some (some z, k, by_)) (hzk : z.cells.size = k) (hk : 0 < k) (hu : Try.prog.underlying t = some (.slice e)) (hgd : o.guard = none) (s x : Operand)
    (ho : o.op = .call { callee := .builtin .append, args := #[s, x], argTypes := #[t, t] }) (B : Nat) (v : Value) (L : List (List Value)) (hs : a.eval s = v) (hown : OwnR W B e k v L)
    (xa : Option Addr) (m c : Nat) (Lx : List (List Value)) (hm : m = Lx.length) (hx : a.eval x = .slice xa m c) (h6 : ∀ r ∈ Lx, r.length = k) (hone : ∀ u ∈ Lx.flatten, u.oneCell' = true)
    (hcells : ∀ b, xa = some b → ∀ j u, Lx.flatten[j]? = some u → W.cell? (b.add j) = some u) (hnone : xa = none → Lx = []) (hlen : (L.length + Lx.length) * by_ ≤ 140737488355328) (hlen2 : L.length + Lx.length < 1000000) (hB : B ≤ W.heap.size)
    (h : ∀ v' w', OwnR w' B e k v' (L ++ Lx) → W.grownBy w' v.ownBlock → K (a.put o.dst v') w') :
    if Region.wanted o (yielded ops a.tmps) = true then Oper.wp Try.prog o a W K Q else E := by
  subst hm
  have hw : Region.wanted o (yielded ops a.tmps) = true := by simp [Region.wanted, hgd]
  rw [if_pos hw]
  obtain ⟨i0, hi, hz0, hz1, hz2⟩ := info_parts hinfo
  cases xa with
  | none =>
    obtain rfl := hnone rfl
    have hrun := run_app_nil B t o.type e i0 k hu hi v L.length L.flatten hown.1 c
    have hx' : a.eval x = .slice none 0 c := hx
    unfold Oper.wp
    simp [execOp, ho, resolve, invoke, builtin, hs, hx', hrun, Result.andThen]
    exact h v W (by simpa using hown) (World.grownBy.refl W _)
  | some ad =>
    refine wp_append_own _ s x t ho B e i0 z k by_ hu hi hz0 hz1 hz2 hzk hk v L.length L.flatten hs hown.1 ad Lx.length c Lx.flatten hx (flat_len h6) (hcells ad rfl) hone (by unfold maxLen; omega) hlen hB ?_
    intro v' w' hown' hg _
    refine h v' w' ⟨by simpa using hown', fun r hr => ?_⟩ hg
    rcases List.mem_append.1 hr with h1 | h1
    · exact hown.2 r h1
    · exact h6 r h1
theorem Blk.grown {W w' : World} {b : Nat} {vs : List Value} {t : TypeId} {r : Option Nat} (h : Blk W b vs t) (hg : W.grownBy w' r) (hne : r ≠ some b) : Blk w' b vs t := (hg.block b h.lt (fun e => hne e.symm)).trans h
end Go.Proofs.Ytppfdjjhloaopaa
/- Walks of slices.Clone, cmp.Less and slices.BinarySearch at integers. Conditions: how the arguments lie in memory; sizes; that the list is strictly ascending. -/
namespace Go.Proofs.Ytppfdjjhloaopaa
open Go.RowKit

theorem ints_news {w : World} {ad : Addr} {m n : Nat} {l : List Int} (h : IntsAt w (.slice (some ad) m n) l) : m = l.length ∧ ∀ j u, (l.map (Value.int .i64))[j]? = some u → w.cell? (ad.add j) = some u := by
  obtain ⟨a, n', e, h1, h2, h3⟩ := h
  cases e
  refine ⟨rfl, fun j u hj => ?_⟩
  have hjl : j < l.length := by have := (List.getElem?_eq_some_iff.1 hj).1; simpa using this
  obtain ⟨b, o, e, hc⟩ := h3 j hjl
  cases e
  rw [List.getElem?_map, List.getElem?_eq_getElem hjl] at hj
  simp at hj
  rw [List.getD_eq_getElem?_getD, List.getElem?_eq_getElem hjl] at hc
  by_cases h0 : j = 0
  · subst h0; simp [Addr.add]; simpa [hj] using hc
  · simp [Addr.add, h0]; simpa [hj] using hc
def CloneQ (l : List Int) (w : World) (e : Ending) (w' : World) : Prop := ∃ v, e = .returned v ∧ IntsIn (frmY w.heap.size 3 w') v l ∧ Below w.heap.size w w'
set_option maxHeartbeats 1000000 in
theorem clone_any (l : List Int) (v : Value) (w : World) (hv : IntsAt w v l) (hl : l.length < 1000000) :
    Calls Try.prog 54 #[v] w (CloneQ l w) := by
  have hnl := fun (w : World) (a : Option Addr) (n c n' c' : Nat) => Lib.run_eql_slice_nil (P := Try.prog) w 25 3 a n c n' c' Try.underlying25
  obtain ⟨i0, hi, hz0, hz1, hz2⟩ := info_parts infoInt
  obtain ⟨a, n, rfl, h1, h2, h3⟩ := id hv
  cases a with
  | none =>
    have hl0 : l = [] := by
      cases l with
      | nil => rfl
      | cons x t => obtain ⟨b, o, e, -⟩ := h3 0 (by simp); cases e
    have HL := hide hl0
    clear hl0
    go_enter Try.func54, Try.ntmps54
    go_wp2
    go_ret
    exact ⟨_, rfl, by rw [HL.out]; exact IntsIn.nil _, Below.refl _ _⟩
  | some ad =>
    obtain ⟨-, hnews⟩ := ints_news hv
    have HN := hide hnews
    have hone : ∀ u ∈ l.map (Value.int .i64), u.oneCell' = true := fun u hu => by obtain ⟨x, -, rfl⟩ := List.mem_map.1 hu; rfl
    have HO := hide hone
    have h30 := h3
    clear hnews hone h3 h30
    go_enter Try.func54, Try.ntmps54
    go_wp2_with (at_builtin; refine wpList_append_own _ rfl _ _ 25 rfl w.heap.size 3 i0 (.int .i64 0) 1 8 Try.underlying25 hi hz0 hz1 hz2 rfl (by decide) _ 0 [] rfl (World.ownsRow_lit w #[] 0 (Nat.le_refl _) (by unfold maxLen; omega) rfl) ad l.length n (l.map (Value.int .i64)) rfl (by simp) (fun j u hj => keep (bal w _) (HN.out j u hj)) HO.out (by unfold maxLen; omega) (by omega) (by simp) ?_; intro v' w' hown hg _)
    go_ret
    refine ⟨_, rfl, OwnI.intsY (B := w.heap.size) (by simpa [OwnI] using hown) (Nat.le_refl _), ?_⟩
    exact ((Below.refl _ w).alloc (Nat.le_refl _) _).grown hg (by simp) (fun k hk => by cases hk; exact Nat.le_refl _)
def ltB (x y : Int) : Bool := decide (x < y)
theorem isnan_any (x : Int) (w : World) : Calls Try.prog 90 #[.int .i64 x] w (Ret (.bool false) w) := by
  have e : (x != x) = false := by simp
  go_enter Try.func90, Try.ntmps90
  go_wp2
  go_ret
  exact ⟨rfl, Below.refl _ _⟩
theorem isnan2_any (x : Int) (w : World) : Calls Try.prog 80 #[.int .i64 x] w (Ret (.bool false) w) := by
  have e : (x != x) = false := by simp
  go_enter Try.func80, Try.ntmps80
  go_wp2
  go_ret
  exact ⟨rfl, Below.refl _ _⟩
set_option maxHeartbeats 400000 in
theorem less_any (x y : Int) (w : World) : Calls Try.prog 79 #[.int .i64 x, .int .i64 y] w (Ret (.bool (ltB x y)) w) := by
  have HF : Hid (ltB x y = decide (x < y)) := hide rfl
  go_enter Try.func79, Try.ntmps79
  go_wp2_with (go_at_call 90; refine (isnan_any _ _).mono ?_; rintro e w1 ⟨rfl, hb1⟩)
  go_ret
  exact ⟨ret_bool HF.out.symm, hb1⟩
def Bin2 (l : List Int) (x : Int) (w : World) (e : Ending) (w' : World) : Prop := ∃ n : Int, e = .returned (.tuple #[.int .i64 n, .bool (memB l x)]) ∧ Below w.heap.size w w'
theorem bin2_of {l : List Int} {x n : Int} {b : Bool} {w w' : World} (h : memB l x = b) (hb : Below w.heap.size w w') : Bin2 l x w (.returned (.tuple #[.int .i64 n, .bool b])) w' := ⟨n, by rw [h], hb⟩
theorem memB_yes {l : List Int} {x : Int} {k : Nat} (hk : k < l.length) (h : l.getD k 0 = x) : memB l x = true :=
  List.any_eq_true.2 ⟨_, getD_mem l k (d := 0) hk, by simpa using h⟩
theorem memB_no {l : List Int} {x : Int} (h : ∀ k, k < l.length → l.getD k 0 ≠ x) : memB l x = false := by
  rw [← Bool.not_eq_true]; intro hm
  obtain ⟨y, hy, e⟩ := List.any_eq_true.1 hm
  obtain ⟨k, hk, rfl⟩ := List.getElem_of_mem hy
  have := h k hk
  rw [List.getD_eq_getElem?_getD, List.getElem?_eq_getElem hk] at this
  simp at this e
  exact this e
set_option maxHeartbeats 1000000 in
theorem bin_any (l : List Int) (v : Value) (x : Int) (w : World) (hv : IntsAt w v l) (hl : l.length < 1000000) (hs : AscL l) :
    Calls Try.prog 55 #[v, .int .i64 x] w (Bin2 l x w) := by
  obtain ⟨a, n, rfl, h1, h2, hc⟩ := id hv
  go_enter Try.func55, Try.ntmps55
  go_wp2
  go_loopw [7, 8] (fun i j wr => ∃ (i' j' : Nat), i' ≤ j' ∧ j' ≤ l.length ∧ i = .int .i64 i' ∧ j = .int .i64 j' ∧ Hid (∀ k, k < i' → l.getD k 0 < x) ∧ Hid (∀ k, j' ≤ k → k < l.length → x ≤ l.getD k 0) ∧ Below w.heap.size w wr) (fun i j _ => (intOf j).toNat - (intOf i).toNat)
  case atStart => exact ⟨0, l.length, by omega, by omega, rfl, rfl, fun k hk => by omega, fun k h1 h2 => by omega, Below.refl _ _⟩
  case round =>
    obtain ⟨i, j, hij, hjl, rfl, rfl, HL, HR, hbr⟩ := hrel
    by_cases hlt : i < j
    · obtain ⟨b, o, rfl, hck⟩ := hc ((i + j) / 2) (by omega)
      have ck := keep hbr hck
      have HA := hide (hs ((i + j) / 2))
      have HB := hide (fun k (h : k < (i + j) / 2) => hs k ((i + j) / 2) h (by omega))
      generalize hy : l.getD ((i + j) / 2) 0 = y at ck HA HB hck
      have HYE := hide hy
      clear hy
      have HY : Hid (ltB y x = decide (y < x)) := hide rfl
      clear hs hc hck
      cases hb : ltB y x
      · have HX : Hid (x ≤ y) := hide (by have := HY.out; rw [hb] at this; have := this.symm; simp at this; exact this)
        go_wp2_with (go_at_call 79; refine (less_any _ _ _).mono ?_; rw [hb]; rintro e w1 ⟨rfl, hb1⟩)
        go_roundw
        case rel => exact ⟨i, (i + j) / 2, by omega, by omega, rfl, i64_eq (by omega), HL, fun k h1 h2 => by
          have h3 := HX.out
          rcases Nat.lt_or_ge ((i + j) / 2) k with h4 | h4
          · have := HA.out k h4 h2; omega
          · obtain rfl : k = (i + j) / 2 := by omega
            rw [HYE.out]; exact h3, below2 hbr hb1⟩
        case measure => simp [intOf]; omega
      · have HX : Hid (y < x) := hide (by have := HY.out; rw [hb] at this; have := this.symm; simp at this; exact this)
        go_wp2_with (go_at_call 79; refine (less_any _ _ _).mono ?_; rw [hb]; rintro e w1 ⟨rfl, hb1⟩)
        go_roundw
        case rel => exact ⟨(i + j) / 2 + 1, j, by omega, by omega, i64_eq (by omega), rfl, fun k hk => by
          have h3 := HX.out
          rcases Nat.lt_or_ge k ((i + j) / 2) with h4 | h4
          · have := HB.out k h4; omega
          · obtain rfl : k = (i + j) / 2 := by omega
            rw [HYE.out]; exact h3, HR, below2 hbr hb1⟩
        case measure => simp [intOf]; omega
    · obtain rfl : i = j := by omega
      by_cases hn : i < l.length
      · obtain ⟨b, o, rfl, hck⟩ := hc i hn
        have ck := keep hbr hck
        have HM1 := hide (memB_yes (x := x) hn)
        have HM2 : Hid (l.getD i 0 ≠ x → memB l x = false) := hide fun h => memB_no fun k hk => by
          rcases Nat.lt_or_ge k i with h1 | h1
          · have := HL.out k h1; omega
          · rcases Nat.lt_or_ge i k with h2 | h2
            · have := hs i k h2 hk; have := HR.out i (Nat.le_refl _) hn; omega
            · obtain rfl : k = i := by omega
              exact h
        generalize l.getD i 0 = y at ck HM1 HM2 hck
        clear hs hc hck
        by_cases hyx : y = x
        · have e1 : (y == x) = true := by simpa using hyx
          have HYX := hide hyx
          clear hyx
          go_wp2
          go_ret2
          exact bin2_of (HM1.out HYX.out) hbr
        · have e1 : (y == x) = false := by simpa using hyx
          have HYX := hide hyx
          clear hyx
          go_wp2_with (go_at_call 80; refine (isnan2_any _ _).mono ?_; rintro e w1 ⟨rfl, hb1⟩)
          go_ret2
          exact bin2_of (HM2.out HYX.out) (below2 hbr hb1)
      · have HM : Hid (memB l x = false) := hide (memB_no fun k hk => by have := HL.out k (by omega); omega)
        clear hs hc
        go_wp2
        go_ret2
        exact bin2_of HM.out hbr
end Go.Proofs.Ytppfdjjhloaopaa
/- The walk of Without of package program. Conditions: how the arguments lie in memory; sizes. -/
namespace Go.Proofs.Ytppfdjjhloaopaa
open Go.RowKit

/-- a program in memory -/
theorem RowsIn.nil (c : Rd) : RowsIn c (.slice none 0 0) [] := ⟨none, 0, rfl, Nat.le_refl _, by omega, fun k hk => by simp at hk⟩
set_option maxRecDepth 100000 in
set_option maxHeartbeats 2000000 in
theorem without_any (p : ProgD) (rv gv lv : Value) (l : List Int) (w : World) (hr : RowsAt w rv p.rows) (hg : IntsAt w gv p.gain) (hl : IntsAt w lv l) (hp : p.rows.length < 1000000) :
    Calls Try.prog 30 #[progV p rv gv, lv] w (RetM2 (fun c v u => ProgIn c v (withoutF p l) ∧ u = .int .i64 (errW p l)) w) := by
  obtain ⟨ra, rc, rfl, hrl, hrm, hrc⟩ := id hr
  obtain ⟨la, lc, rfl, hll, hlm, hlc⟩ := id hl
  obtain ⟨w0, hw0, hb0, -, -, -⟩ := boxedProg w p.vars (.slice ra p.rows.length rc) gv
  obtain ⟨w1, hw1, hb1, -, -⟩ := boxed w0 #[.int .i64 0, .slice none 0 0, .slice none 0 0] 27
  have hz0 : w0.heap.size = w.heap.size + 1 := by rw [← hw0]; simp
  have bP : Blk w1 w.heap.size [.int .i64 p.vars, .slice ra p.rows.length rc, gv] 27 := by rw [← hw1, ← hw0]; exact (Blk.new w _ _).old _
  have bR : Blk w1 (w.heap.size + 1) [.int .i64 0, .slice none 0 0, .slice none 0 0] 27 := by rw [← hw1, ← hz0]; exact Blk.new w0 _ _
  have hb01 := below2 hb0 hb1
  have hz1 : w1.heap.size = w.heap.size + 1 + 1 := by rw [← hw1, World.size_alloc, hz0]
  have HW1 := hide hw1
  have HW0 := hide hw0
  have HZ := hide hz1
  have HNO : Hid (okW p l = false → withoutF p l = ⟨0, [], []⟩ ∧ errW p l = 330) := hide fun h => ⟨by unfold withoutF; rw [h]; rfl, by unfold errW; rw [h]; rfl⟩
  have HYES : Hid (okW p l = true → withoutF p l = ⟨p.vars, keptUp p.rows l p.rows.length, p.gain⟩ ∧ errW p l = 0) := hide fun h => ⟨by unfold withoutF; rw [h]; rfl, by unfold errW; rw [h]; rfl⟩
  have HOK : Hid (okW p l = (okUp l p.rows.length l.length && validB p)) := hide rfl
  have hm1 : (p.rows.length : Int) ≤ 9223372036854775807 := by omega
  clear hw0 hw1 hz0 hz1 hb0 hb1
  go_enter Try.func30, Try.ntmps30
  go_wp2_with fail
  rw [HW0.out, HW1.out]
  go_loopw [6, 7, 15] (fun _ _ i wr => ∃ k : Nat, k ≤ l.length ∧ i = .int .i64 k ∧ Hid (okUp l p.rows.length k = true) ∧ Below w1.heap.size w1 wr) (fun _ _ i _ => l.length - (intOf i).toNat)
  case atStart => exact ⟨0, by omega, rfl, rfl, Below.refl _ _⟩
  case round =>
    obtain ⟨k, hk, rfl, HU, hbr⟩ := hrel
    have bPr := bP.later hbr
    have bRr := bR.later hbr
    have hbw := below2 hb01 hbr
    have p1 := bPr.cell 1 rfl
    by_cases hlt : k < l.length
    · obtain ⟨b, o, rfl, hck⟩ := hlc k hlt
      have HNk := hide (fun h => okUp_no (l := l) (n := p.rows.length) (k := k) (m := l.length) h hlt)
      have HS := hide (okUp_succ (l := l) (n := p.rows.length) (k := k))
      have HA : Hid (okAt l p.rows.length k = (isInB 0 (l.getD k 0) ((p.rows.length : Int) - 1) && (decide (k = 0) || decide (l.getD (k - 1) 0 < l.getD k 0)))) := hide rfl
      have hprev : 0 < k → w.cell? ⟨b, o + (k - 1), none⟩ = some (.int .i64 (l.getD (k - 1) 0)) := fun h => by
        obtain ⟨b', o', e, hc⟩ := hlc (k - 1) (by omega); cases e; exact hc
      generalize l.getD k 0 = x at hck HA
      generalize l.getD (k - 1) 0 = y at hprev HA
      have ck := keep hbw hck
      cases hI : isInB 0 x ((p.rows.length : Int) - 1)
      · have HO := HNO.out (by rw [HOK.out, HNk.out (by rw [HA.out, hI]; rfl)]; rfl)
        have HOp := hide HO
        clear HO
        go_wp2_with fail
        refine (isIn_any _ _ _ _).mono ?_
        rw [hI]
        rintro e w2 ⟨rfl, hb2⟩
        have bR2 := bRr.later hb2
        have t0 := bR2.cell 0 rfl
        have t1 := bR2.cell 1 rfl
        have t2 := bR2.cell 2 rfl
        have f0 := bR2.frozen 0
        have f1 := bR2.frozen 1
        have f2 := bR2.frozen 2
        go_wp2_with fail
        obtain ⟨z1, z2, -⟩ := set3 bR2 (.int .i64 0) (.slice none 0 0) (.slice none 0 0)
        have z3 := z2 _ _ (below2 hbw hb2) (by omega)
        generalize World.setCell (World.setCell _ _ _) ⟨w.heap.size + 1, 2, none⟩ _ = Wf at z1 z3 ⊢
        have y0 := z1.cell 0 rfl
        have y1 := z1.cell 1 rfl
        have y2 := z1.cell 2 rfl
        refine bodyPost_ret (v := .tuple #[.agg #[.int .i64 0, .slice none 0 0, .slice none 0 0], .int .i64 330]) (by simp [results, Try.results30, go_sem, y0, y1, y2]) rfl ?_
        exact ⟨_, _, rfl, ⟨⟨_, _, by rw [HOp.out.1], by rw [HOp.out.1]; exact RowsIn.nil _, by rw [HOp.out.1]; exact IntsIn.nil _⟩, by rw [HOp.out.2]⟩, z3⟩
      · by_cases hk0 : k = 0
        · have HOK1 : Hid (okAt l p.rows.length k = true) := hide (by rw [HA.out, hI, decide_eq_true hk0]; rfl)
          subst hk0
          have ck0 : wr.cell? ⟨b, o, none⟩ = some (.int .i64 x) := ck
          clear hprev hrc hlc hck
          go_wp2_with fail
          refine (isIn_any _ _ _ _).mono ?_
          rw [hI]
          rintro e w2 ⟨rfl, hb2⟩
          go_wp2_with fail
          go_roundw
          case rel => exact ⟨0 + 1, by omega, by go_num, by show okUp _ _ _ = true; rw [HS.out, HU.out, HOK1.out]; rfl, below2 hbr hb2⟩
          case measure => simp [intOf]; omega
        · have hk1 : (0 : Int) < (k : Int) := by omega
          have cy := keep hbw (hprev (by omega))
          clear hprev hrc hlc hck
          by_cases hxy : y < x
          · have HOK1 : Hid (okAt l p.rows.length k = true) := hide (by rw [HA.out, hI, decide_eq_true hxy]; simp)
            have hxy' : ¬ x ≤ y := by omega
            go_wp2_with fail
            refine (isIn_any _ _ _ _).mono ?_
            rw [hI]
            rintro e w2 ⟨rfl, hb2⟩
            have cy2 := keep hb2 cy
            go_wp2_with fail
            go_roundw
            case rel => exact ⟨k + 1, by omega, by go_num, by show okUp _ _ _ = true; rw [HS.out, HU.out, HOK1.out]; rfl, below2 hbr hb2⟩
            case measure => simp [intOf]; omega
          · have HO := HNO.out (by rw [HOK.out, HNk.out (by rw [HA.out, hI, decide_eq_false hxy, decide_eq_false hk0]; rfl)]; rfl)
            have HOp := hide HO
            have hxy' : x ≤ y := by omega
            clear HO
            go_wp2_with fail
            refine (isIn_any _ _ _ _).mono ?_
            rw [hI]
            rintro e w2 ⟨rfl, hb2⟩
            have cy2 := keep hb2 cy
            have bR2 := bRr.later hb2
            have t0 := bR2.cell 0 rfl
            have t1 := bR2.cell 1 rfl
            have t2 := bR2.cell 2 rfl
            have f0 := bR2.frozen 0
            have f1 := bR2.frozen 1
            have f2 := bR2.frozen 2
            go_wp2_with fail
            obtain ⟨z1, z2, -⟩ := set3 bR2 (.int .i64 0) (.slice none 0 0) (.slice none 0 0)
            have z3 := z2 _ _ (below2 hbw hb2) (by omega)
            generalize World.setCell (World.setCell _ _ _) ⟨w.heap.size + 1, 2, none⟩ _ = Wf at z1 z3 ⊢
            have y0 := z1.cell 0 rfl
            have y1 := z1.cell 1 rfl
            have y2 := z1.cell 2 rfl
            refine bodyPost_ret (v := .tuple #[.agg #[.int .i64 0, .slice none 0 0, .slice none 0 0], .int .i64 330]) (by simp [results, Try.results30, go_sem, y0, y1, y2]) rfl ?_
            exact ⟨_, _, rfl, ⟨⟨_, _, by rw [HOp.out.1], by rw [HOp.out.1]; exact RowsIn.nil _, by rw [HOp.out.1]; exact IntsIn.nil _⟩, by rw [HOp.out.2]⟩, z3⟩
    · obtain rfl : k = l.length := by omega
      have p0 := bPr.cell 0 rfl
      have p2 := bPr.cell 2 rfl
      cases hV : validB p
      · have HO := HNO.out (by rw [HOK.out, hV, Bool.and_false])
        have HOp := hide HO
        clear HO
        go_wp2_with fail
        refine (valid_any p _ _ _ (hr.below hbw) (hg.below hbw)).mono ?_
        rw [hV]
        rintro e w2 ⟨rfl, hb2⟩
        have bR2 := bRr.later hb2
        have t0 := bR2.cell 0 rfl
        have t1 := bR2.cell 1 rfl
        have t2 := bR2.cell 2 rfl
        have f0 := bR2.frozen 0
        have f1 := bR2.frozen 1
        have f2 := bR2.frozen 2
        go_wp2_with fail
        obtain ⟨z1, z2, -⟩ := set3 bR2 (.int .i64 0) (.slice none 0 0) (.slice none 0 0)
        have z3 := z2 _ _ (below2 hbw hb2) (by omega)
        generalize World.setCell (World.setCell _ _ _) ⟨w.heap.size + 1, 2, none⟩ _ = Wf at z1 z3 ⊢
        have y0 := z1.cell 0 rfl
        have y1 := z1.cell 1 rfl
        have y2 := z1.cell 2 rfl
        refine bodyPost_ret (v := .tuple #[.agg #[.int .i64 0, .slice none 0 0, .slice none 0 0], .int .i64 330]) (by simp [results, Try.results30, go_sem, y0, y1, y2]) rfl ?_
        exact ⟨_, _, rfl, ⟨⟨_, _, by rw [HOp.out.1], by rw [HOp.out.1]; exact RowsIn.nil _, by rw [HOp.out.1]; exact IntsIn.nil _⟩, by rw [HOp.out.2]⟩, z3⟩
      · have HO := HYES.out (by rw [HOK.out, hV, HU.out]; rfl)
        have HOp := hide HO
        clear HO
        go_wp2_with fail
        refine (valid_any p _ _ _ (hr.below hbw) (hg.below hbw)).mono ?_
        rw [hV]
        rintro e w2 ⟨rfl, hb2⟩
        have bR2 := bRr.later hb2
        have bP2 := bPr.later hb2
        have q0 := bP2.cell 0 rfl
        have q1 := bP2.cell 1 rfl
        have q2 := bP2.cell 2 rfl
        have hbw2 := below2 hbw hb2
        have hgl : p.gain.length < 1000000 := by obtain ⟨v0, v12, -, -, h1, -⟩ := valid_parts hV; omega
        have hrs : ∀ r ∈ p.rows, r.coef.length < 1000000 := by obtain ⟨v0, v12, -, h1, -⟩ := valid_parts hV; exact fun r hr => by have := (h1 r hr).1; omega
        have HRS := hide hrs
        have HAS := hide (okUp_asc HU.out)
        have HLL := hide (okUp_len HU.out)
        clear p0 p1 p2 hrs
        go_wp2_with fail
        have hne : w.heap.size < w2.heap.size := by have := hbw2.size; have := bP2.lt; omega
        have hq := hide (And.intro q0 q2)
        go_region_held3 (fun w' => w'.cell? ⟨w.heap.size, 0, none⟩ = some (.int .i64 p.vars) ∧ w'.cell? ⟨w.heap.size, 2, none⟩ = some gv)
          (first | go_keep | (exact ⟨keep hb4 hq.out.1, keep hb4 hq.out.2⟩) | (exact ⟨keep (below2 hb4 (bal w3 _)) hq.out.1, keep (below2 hb4 (bal w3 _)) hq.out.2⟩) | (exact ⟨keep ((set3 bO _ _ _).2.1 _ _ hb4 (Nat.le_refl _)) hq.out.1, keep ((set3 bO _ _ _).2.1 _ _ hb4 (Nat.le_refl _)) hq.out.2⟩))
          (first | (go_at_call 54; refine (clone_any p.gain _ _ ((hg.below hbw2).below (by first | exact (Below.refl _ _).drew | exact (bal _ _).drew)) hgl).mono ?_; rintro e w3 ⟨gv', rfl, hgv', hb3⟩; obtain ⟨ga', gn', rfl, -, -, -⟩ := id hgv'; have hb4 : Below w2.heap.size w2 w3 := (by first | exact below2 (Below.refl _ w2).drew hb3 | exact below2 (bal w2.drew _) hb3 | exact below2 (bal w2 _).drew hb3); try (have bO : Blk w3 w2.heap.size [.int .i64 0, .slice none 0 0, .slice none 0 0] 27 := Blk.later (Blk.new w2.drew _ _) hb3; have o0 := bO.cell 0 rfl; have o1 := bO.cell 1 rfl; have o2 := bO.cell 2 rfl; have of0 := bO.frozen 0; have of1 := bO.frozen 1; have of2 := bO.frozen 2)))
        all_goals first
          | (obtain ⟨z1, z2, -⟩ := set3 bO (.int .i64 p.vars) (.slice none 0 0) (.slice ga' p.gain.length gn')
             have hb5 := z2 _ _ hb4 (Nat.le_refl _)
             have hg5 := (((hgv'.keeps (keeps_frmY_le _ w3 (B' := w.heap.size) (by have := hbw2.size; first | exact this | (simp; omega)))).keeps (keeps_frmY_set bO (by decide) 0 (.int .i64 p.vars))).keeps (keeps_frmY_set (bO.set 0 _) (by decide) 1 (.slice none 0 0))).keeps (keeps_frmY_set ((bO.set 0 _).set 1 _) (by decide) 2 (.slice ga' p.gain.length gn'))
             clear o0 o1 o2 of0 of1 of2 bO
             generalize World.setCell (World.setCell (World.setCell w3 _ _) _ _) _ _ = W4 at z1 hb5 hg5 ⊢
             have hob : w2.heap.size ≤ w2.heap.size := Nat.le_refl _)
          | (have z1 := Blk.new w3 [.int .i64 p.vars, .slice none 0 0, .slice ga' p.gain.length gn'] 27
             have hb5 := below2 hb4 (bal w3 (.cells #[.int .i64 p.vars, .slice none 0 0, .slice ga' p.gain.length gn'] 27))
             have hg5 := (hgv'.keeps (keeps_frmY_le _ w3 (B' := w.heap.size) (by have := hbw2.size; first | exact this | (simp; omega)))).keeps (keeps_frmY_below (bal w3 (.cells #[.int .i64 p.vars, .slice none 0 0, .slice ga' p.gain.length gn'] 27)))
             generalize World.alloc w3 _ = W4 at z1 hb5 hg5 ⊢
             have hob : w2.heap.size ≤ w3.heap.size := hb4.size)
        · skip
          have q1' := keep hb5 q1
          have hnb : w3.heap.size < W4.heap.size := z1.lt
          have hgq := hide hg5
          have hob2 := hbw2.size
          clear hg5 hq
          go_wp2_with fail
          go_loopw [55] (fun i wr => ∃ (k : Nat) (v : Value), k ≤ p.rows.length ∧ i = .int .i64 k ∧ RowsOwn wr w.heap.size W4.heap.size v (keptUp p.rows l k) ∧ Blk wr w3.heap.size [.int .i64 p.vars, v, .slice ga' p.gain.length gn'] 27 ∧ IntsIn (frmY w.heap.size 3 wr) (.slice ga' p.gain.length gn') p.gain ∧ Below w2.heap.size w2 wr ∧ W4.heap.size ≤ wr.heap.size) (fun i _ => p.rows.length - (intOf i).toNat)
          case atStart => exact ⟨0, _, by omega, rfl, RowsOwn.nil _ _ _, z1, hgq, hb5, Nat.le_refl _⟩
          case round =>
            obtain ⟨k, v, hk, rfl, hRO, bO, hgr, hbr, hz⟩ := hrel
            by_cases hlt : k < p.rows.length
            · obtain ⟨b, o, cv, rfl, hck⟩ := hrc k hlt
              have hm := getD_mem p.rows k (d := row0) hlt
              have HKY := hide (keptUp_yes (l := p.rows) (rows := l) (k := k))
              have HKN := hide (keptUp_no (l := p.rows) (rows := l) (k := k))
              have hle := keptUp_le p.rows l k
              have hql := HRS.out _ hm
              generalize p.rows.getD k row0 = x at hck hm HKY HKN hql
              obtain ⟨e0, e1, e2, e3, e4, e5, e6⟩ := hck.below (below2 hbw2 hbr)
              obtain ⟨ca, cc, rfl, -, -, -⟩ := id e6
              clear hck
              have HRC := hide hrc
              clear hrc hlc hm
              have hlr := (hl.below hbw2).below hbr
              go_wp2_with fail
              refine (bin_any l _ _ _ (hlr.below (bal wr _)) (by have := HLL.out; omega) HAS.out).mono ?_
              rintro e w5 ⟨ix, rfl, hb6⟩
              have hb7 := below2 (bal wr _) hb6
              have bB := (Blk.new wr (rowCells x (.slice ca x.coef.length cc)) 67).later hb6
              cases hM : memB l k
              · have r4 := bB.cell 4 rfl
                have r0 := bB.cell 0 rfl
                have r1 := bB.cell 1 rfl
                have r2 := bB.cell 2 rfl
                have r3 := bB.cell 3 rfl
                have r5 := bB.cell 5 rfl
                have hsk := hb7.size
                have hoblt : w3.heap.size < wr.heap.size := bO.lt
                have hne1 : w3.heap.size ≠ wr.heap.size := by omega
                have hne2 : wr.heap.size ≠ w3.heap.size := by omega
                go_wp2_with (first | (go_at_call 54; refine (clone_any x.coef _ _ ((e6.below hb7)) hql).mono ?_; rintro e w6 ⟨cvn, rfl, hcn, hb8⟩; obtain ⟨na, nc, rfl, -, -, -⟩ := id hcn; have t0 := keep hb8 r0; have t1 := keep hb8 r1; have t2 := keep hb8 r2; have t3 := keep hb8 r3; have t4 := keep hb8 r4; have t5 := keep hb8 r5; have bB8 := bB.later hb8; have f4 := bB8.frozen 4; have hb9 := below2 hb7 hb8; have o6 := keep hb9 (bO.cell 1 rfl)) | (at_builtin; have hb10 : Below wr.heap.size wr (w6.setCell ⟨wr.heap.size, 4, none⟩ (.slice na x.coef.length nc)) := hb9.setCell (p := ⟨wr.heap.size, 4, none⟩) (Nat.le_refl _) _; obtain ⟨L, hOR, hLl, hLs⟩ := hRO.later hb10; have hs10 := hb10.size; have bO10 := bO.later hb10; refine app_rec infoRow rfl (by decide) rfl rfl _ _ rfl W4.heap.size _ L rfl hOR (rowCells x (.slice na x.coef.length nc)) rfl cells6 _ rfl (by simp) (by omega) (by omega) (by omega) ?_; intro g7 c7 w7 hO7 hE7 hz7; have bO7 := hE7.blk bO10 (by decide); have o71 := bO7.cell 1 rfl; have of7 := bO7.frozen 1))
                go_roundw
                case rel =>
                  have hxc := ((hcn.keeps (keeps_frmY_le _ w6 (B' := w.heap.size) (by omega))).keeps (keeps_frmY_set bB8 (by decide) 4 (.slice na x.coef.length nc)))
                  rw [List.length_append, hLl] at hO7
                  have hRO7 := (RowsOwn.app hLl hLs hxc hO7 hE7).set bO7 hnb (by decide) 1 (.slice (some ⟨g7, 0, none⟩) ((keptUp p.rows l k).length + 1) c7)
                  refine ⟨k + 1, _, by omega, by go_num, by rw [HKY.out hM]; exact hRO7, bO7.set 1 _, ((hgr.keeps (keeps_frmY_below hb10)).keeps (keeps_frmY_eff hE7 (by decide))).keeps (keeps_frmY_set bO7 (by decide) 1 _), ?_, ?_⟩
                  · exact ((hbr.trans (hb10.mono hbr.size)).trans ((hE7.below (by omega)).mono (by omega))).setCell (p := ⟨w3.heap.size, 1, none⟩) hob _
                  · simp [World.setCell] at hz7 hs10 ⊢; omega
                case measure => simp [intOf]; omega
              · go_wp2_with fail
                go_roundw
                case rel => exact ⟨k + 1, v, by omega, by go_num, by rw [HKN.out hM]; exact hRO.later hb7, bO.later hb7, hgr.keeps (keeps_frmY_below hb7), below2 hbr hb7, by have := hb7.size; omega⟩
                case measure => simp [intOf]; omega
            · obtain rfl : k = p.rows.length := by omega
              obtain ⟨va, vc, rfl⟩ := hRO.form
              have bRr2 := bR2.later hbr
              have o0 := bO.cell 0 rfl
              have o1 := bO.cell 1 rfl
              have o2 := bO.cell 2 rfl
              have t0 := bRr2.cell 0 rfl
              have t1 := bRr2.cell 1 rfl
              have t2 := bRr2.cell 2 rfl
              have f0 := bRr2.frozen 0
              have f1 := bRr2.frozen 1
              have f2 := bRr2.frozen 2
              have hwR : w.heap.size + 1 < W4.heap.size := by have := bR2.lt; have := hbr.size; have := z1.lt; omega
              go_wp2_with fail
              obtain ⟨y1, y2, -⟩ := set3 bRr2 (.int .i64 p.vars) (.slice va (keptUp p.rows l p.rows.length).length vc) (.slice ga' p.gain.length gn')
              have y3 := y2 _ _ (below2 hbw2 hbr) (by omega)
              have hRf := ((hRO.set bRr2 hwR (by decide) 0 (.int .i64 p.vars)).set (bRr2.set 0 _) hwR (by decide) 1 (.slice va (keptUp p.rows l p.rows.length).length vc)).set ((bRr2.set 0 _).set 1 _) hwR (by decide) 2 (.slice ga' p.gain.length gn')
              have hgf := ((hgr.keeps (keeps_frmY_set bRr2 (by decide) 0 (.int .i64 p.vars))).keeps (keeps_frmY_set (bRr2.set 0 _) (by decide) 1 (.slice va (keptUp p.rows l p.rows.length).length vc))).keeps (keeps_frmY_set ((bRr2.set 0 _).set 1 _) (by decide) 2 (.slice ga' p.gain.length gn'))
              generalize World.setCell (World.setCell _ _ _) ⟨w.heap.size + 1, 2, none⟩ _ = Wf at y1 y3 hRf hgf ⊢
              have x0 := y1.cell 0 rfl
              have x1 := y1.cell 1 rfl
              have x2 := y1.cell 2 rfl
              refine bodyPost_ret (v := .tuple #[.agg #[.int .i64 p.vars, .slice va (keptUp p.rows l p.rows.length).length vc, .slice ga' p.gain.length gn'], .int .i64 0]) (by simp [results, Try.results30, go_sem, x0, x1, x2]) rfl ?_
              exact ⟨_, _, rfl, ⟨⟨_, _, by rw [HOp.out.1], by rw [HOp.out.1]; exact hRf.at (Nat.le_refl _) (by omega), by rw [HOp.out.1]; exact hgf.keeps (keeps_frmY _ _ _)⟩, by rw [HOp.out.2]⟩, y3⟩
        · skip
          have q1' := keep hb5 q1
          have hnb : w2.heap.size < W4.heap.size := z1.lt
          have hgq := hide hg5
          have hob2 := hbw2.size
          clear hg5 hq
          go_wp2_with fail
          go_loopw [55] (fun i wr => ∃ (k : Nat) (v : Value), k ≤ p.rows.length ∧ i = .int .i64 k ∧ RowsOwn wr w.heap.size W4.heap.size v (keptUp p.rows l k) ∧ Blk wr w2.heap.size [.int .i64 p.vars, v, .slice ga' p.gain.length gn'] 27 ∧ IntsIn (frmY w.heap.size 3 wr) (.slice ga' p.gain.length gn') p.gain ∧ Below w2.heap.size w2 wr ∧ W4.heap.size ≤ wr.heap.size) (fun i _ => p.rows.length - (intOf i).toNat)
          case atStart => exact ⟨0, _, by omega, rfl, RowsOwn.nil _ _ _, z1, hgq, hb5, Nat.le_refl _⟩
          case round =>
            obtain ⟨k, v, hk, rfl, hRO, bO, hgr, hbr, hz⟩ := hrel
            by_cases hlt : k < p.rows.length
            · obtain ⟨b, o, cv, rfl, hck⟩ := hrc k hlt
              have hm := getD_mem p.rows k (d := row0) hlt
              have HKY := hide (keptUp_yes (l := p.rows) (rows := l) (k := k))
              have HKN := hide (keptUp_no (l := p.rows) (rows := l) (k := k))
              have hle := keptUp_le p.rows l k
              have hql := HRS.out _ hm
              generalize p.rows.getD k row0 = x at hck hm HKY HKN hql
              obtain ⟨e0, e1, e2, e3, e4, e5, e6⟩ := hck.below (below2 hbw2 hbr)
              obtain ⟨ca, cc, rfl, -, -, -⟩ := id e6
              clear hck
              have HRC := hide hrc
              clear hrc hlc hm
              have hlr := (hl.below hbw2).below hbr
              go_wp2_with fail
              refine (bin_any l _ _ _ (hlr.below (bal wr _)) (by have := HLL.out; omega) HAS.out).mono ?_
              rintro e w5 ⟨ix, rfl, hb6⟩
              have hb7 := below2 (bal wr _) hb6
              have bB := (Blk.new wr (rowCells x (.slice ca x.coef.length cc)) 67).later hb6
              cases hM : memB l k
              · have r4 := bB.cell 4 rfl
                have r0 := bB.cell 0 rfl
                have r1 := bB.cell 1 rfl
                have r2 := bB.cell 2 rfl
                have r3 := bB.cell 3 rfl
                have r5 := bB.cell 5 rfl
                have hsk := hb7.size
                have hoblt : w2.heap.size < wr.heap.size := bO.lt
                have hne1 : w2.heap.size ≠ wr.heap.size := by omega
                have hne2 : wr.heap.size ≠ w2.heap.size := by omega
                go_wp2_with (first | (go_at_call 54; refine (clone_any x.coef _ _ ((e6.below hb7)) hql).mono ?_; rintro e w6 ⟨cvn, rfl, hcn, hb8⟩; obtain ⟨na, nc, rfl, -, -, -⟩ := id hcn; have t0 := keep hb8 r0; have t1 := keep hb8 r1; have t2 := keep hb8 r2; have t3 := keep hb8 r3; have t4 := keep hb8 r4; have t5 := keep hb8 r5; have bB8 := bB.later hb8; have f4 := bB8.frozen 4; have hb9 := below2 hb7 hb8; have o6 := keep hb9 (bO.cell 1 rfl)) | (at_builtin; have hb10 : Below wr.heap.size wr (w6.setCell ⟨wr.heap.size, 4, none⟩ (.slice na x.coef.length nc)) := hb9.setCell (p := ⟨wr.heap.size, 4, none⟩) (Nat.le_refl _) _; obtain ⟨L, hOR, hLl, hLs⟩ := hRO.later hb10; have hs10 := hb10.size; have bO10 := bO.later hb10; refine app_rec infoRow rfl (by decide) rfl rfl _ _ rfl W4.heap.size _ L rfl hOR (rowCells x (.slice na x.coef.length nc)) rfl cells6 _ rfl (by simp) (by omega) (by omega) (by omega) ?_; intro g7 c7 w7 hO7 hE7 hz7; have bO7 := hE7.blk bO10 (by decide); have o71 := bO7.cell 1 rfl; have of7 := bO7.frozen 1))
                go_roundw
                case rel =>
                  have hxc := ((hcn.keeps (keeps_frmY_le _ w6 (B' := w.heap.size) (by omega))).keeps (keeps_frmY_set bB8 (by decide) 4 (.slice na x.coef.length nc)))
                  rw [List.length_append, hLl] at hO7
                  have hRO7 := (RowsOwn.app hLl hLs hxc hO7 hE7).set bO7 hnb (by decide) 1 (.slice (some ⟨g7, 0, none⟩) ((keptUp p.rows l k).length + 1) c7)
                  refine ⟨k + 1, _, by omega, by go_num, by rw [HKY.out hM]; exact hRO7, bO7.set 1 _, ((hgr.keeps (keeps_frmY_below hb10)).keeps (keeps_frmY_eff hE7 (by decide))).keeps (keeps_frmY_set bO7 (by decide) 1 _), ?_, ?_⟩
                  · exact ((hbr.trans (hb10.mono hbr.size)).trans ((hE7.below (by omega)).mono (by omega))).setCell (p := ⟨w2.heap.size, 1, none⟩) hob _
                  · simp [World.setCell] at hz7 hs10 ⊢; omega
                case measure => simp [intOf]; omega
              · go_wp2_with fail
                go_roundw
                case rel => exact ⟨k + 1, v, by omega, by go_num, by rw [HKN.out hM]; exact hRO.later hb7, bO.later hb7, hgr.keeps (keeps_frmY_below hb7), below2 hbr hb7, by have := hb7.size; omega⟩
                case measure => simp [intOf]; omega
            · obtain rfl : k = p.rows.length := by omega
              obtain ⟨va, vc, rfl⟩ := hRO.form
              have bRr2 := bR2.later hbr
              have o0 := bO.cell 0 rfl
              have o1 := bO.cell 1 rfl
              have o2 := bO.cell 2 rfl
              have t0 := bRr2.cell 0 rfl
              have t1 := bRr2.cell 1 rfl
              have t2 := bRr2.cell 2 rfl
              have f0 := bRr2.frozen 0
              have f1 := bRr2.frozen 1
              have f2 := bRr2.frozen 2
              have hwR : w.heap.size + 1 < W4.heap.size := by have := bR2.lt; have := hbr.size; have := z1.lt; omega
              go_wp2_with fail
              obtain ⟨y1, y2, -⟩ := set3 bRr2 (.int .i64 p.vars) (.slice va (keptUp p.rows l p.rows.length).length vc) (.slice ga' p.gain.length gn')
              have y3 := y2 _ _ (below2 hbw2 hbr) (by omega)
              have hRf := ((hRO.set bRr2 hwR (by decide) 0 (.int .i64 p.vars)).set (bRr2.set 0 _) hwR (by decide) 1 (.slice va (keptUp p.rows l p.rows.length).length vc)).set ((bRr2.set 0 _).set 1 _) hwR (by decide) 2 (.slice ga' p.gain.length gn')
              have hgf := ((hgr.keeps (keeps_frmY_set bRr2 (by decide) 0 (.int .i64 p.vars))).keeps (keeps_frmY_set (bRr2.set 0 _) (by decide) 1 (.slice va (keptUp p.rows l p.rows.length).length vc))).keeps (keeps_frmY_set ((bRr2.set 0 _).set 1 _) (by decide) 2 (.slice ga' p.gain.length gn'))
              generalize World.setCell (World.setCell _ _ _) ⟨w.heap.size + 1, 2, none⟩ _ = Wf at y1 y3 hRf hgf ⊢
              have x0 := y1.cell 0 rfl
              have x1 := y1.cell 1 rfl
              have x2 := y1.cell 2 rfl
              refine bodyPost_ret (v := .tuple #[.agg #[.int .i64 p.vars, .slice va (keptUp p.rows l p.rows.length).length vc, .slice ga' p.gain.length gn'], .int .i64 0]) (by simp [results, Try.results30, go_sem, x0, x1, x2]) rfl ?_
              exact ⟨_, _, rfl, ⟨⟨_, _, by rw [HOp.out.1], by rw [HOp.out.1]; exact hRf.at (Nat.le_refl _) (by omega), by rw [HOp.out.1]; exact hgf.keeps (keeps_frmY _ _ _)⟩, by rw [HOp.out.2]⟩, y3⟩
end Go.Proofs.Ytppfdjjhloaopaa
/- Walks of the law's example and of its sane. No condition. -/
namespace Go.Proofs.Ytppfdjjhloaopaa
open Go.RowKit

def exP : ProgD := ⟨3, [⟨0, 0, 0, 0, [2, 3, 1], 5⟩, ⟨0, 0, 0, 0, [1, 0, 1], 1⟩], [5, 4, 3]⟩
def ExQ (w : World) (e : Ending) (w' : World) : Prop :=
  ∃ b c, e = .returned (.agg #[.int .i64 3, .slice (some ⟨b, 0, none⟩) 2 2, .slice (some ⟨c, 0, none⟩) 3 3]) ∧ RowsIn (frm w.heap.size w') (.slice (some ⟨b, 0, none⟩) 2 2) exP.rows ∧ IntsIn (frm w.heap.size w') (.slice (some ⟨c, 0, none⟩) 3 3) exP.gain ∧ Below w.heap.size w w'
end Go.Proofs.Ytppfdjjhloaopaa
/- Walks of Undecided and Goal of the reference. Conditions: how the arguments lie in memory; sizes. -/
namespace Go.Proofs.Ytppfdjjhloaopaa
open Go.RowKit

set_option maxHeartbeats 1000000 in
theorem undecided_any (n : Nat) (rv gv : Value) (w : World) (hn : n ≤ 12) :
    Calls Try.prog 41 #[.agg #[.int .i64 n, rv, gv]] w (RetM (fun c v => IntsIn c v (List.replicate n (-1))) w) := by
  go_enter Try.func41, Try.ntmps41
  go_wp2_with fail
  generalize hW : World.alloc w _ = W0
  have hsz : W0.heap.size = w.heap.size + 1 := by rw [← hW]; simp
  have hb0 : Below w.heap.size w W0 := by rw [← hW]; exact bal w _
  have hP : Blk W0 w.heap.size [.int .i64 n, rv, gv] 27 := by rw [← hW]; exact Blk.new w _ _
  have hz1 : w.heap.size < W0.heap.size := by omega
  clear hW hsz
  go_loopw [3, 4] (fun s i wr => ∃ (k : Nat), k ≤ n ∧ i = .int .i64 k ∧ OwnI wr W0.heap.size s (List.replicate k (-1)) ∧ Below W0.heap.size W0 wr) (fun _ i _ => n - (intOf i).toNat)
  case atStart => exact ⟨0, by omega, rfl, OwnI.nil _ _, Below.refl _ _⟩
  case round =>
    obtain ⟨k, hk, rfl, hown, hbr⟩ := hrel
    have p0 := (hP.later hbr).cell 0 rfl
    by_cases hlt : k < n
    · go_wp2_with (at_builtin; refine app_int rfl _ _ rfl W0.heap.size _ _ rfl hown (-1) rfl (by simp; omega) hbr.size ?_; intro v' w4 hown4 hb4 hz4; rw [← List.replicate_succ'] at hown4)
      go_roundw
      case rel => exact ⟨k + 1, by omega, by go_num, hown4, hbr.trans hb4⟩
      case measure => simp [intOf]; omega
    · obtain rfl : k = n := by omega
      go_wp2_with fail
      go_ret
      exact ⟨_, rfl, hown.intsF hb0.size, below2 hb0 hbr⟩
/-- the first k numbers, negative, and noughts -/
def negs0 (l : List Int) (k : Nat) : List Int := negs l k ++ List.replicate (l.length - k) 0
theorem negs0_set {l : List Int} {k : Nat} (h : k < l.length) : (negs0 l k).set k (-(l.getD k 0)) = negs0 l (k + 1) := by
  have h1 := negs_len (l := l) (k := k) (by omega)
  unfold negs0
  rw [negs_succ h, show l.length - k = (l.length - (k + 1)) + 1 by omega, List.replicate_succ, List.set_append_right _ _ (by omega), h1]
  simp
theorem negs0_full (l : List Int) : negs0 l l.length = l.map fun x => -x := by simp [negs0, negs]
theorem negs0_nil (l : List Int) : negs0 l 0 = List.replicate l.length 0 := by simp [negs0, negs]
theorem negs0_len {l : List Int} {k : Nat} (h : k ≤ l.length) : (negs0 l k).length = l.length := by
  unfold negs0; rw [List.length_append, negs_len h, List.length_replicate]; omega
/-- the call returns the goal's row, its numbers in a new block -/
def GoalQ (gl : List Int) (g : Int) (w : World) (e : Ending) (w' : World) : Prop :=
  ∃ b : Nat, w.heap.size ≤ b ∧ e = .returned (rowV (goalF gl g) (.slice (some ⟨b, 0, none⟩) gl.length gl.length)) ∧ Blk w' b ((goalF gl g).coef.map (Value.int .i64)) 3 ∧ Below w.heap.size w w'
set_option maxHeartbeats 1000000 in
theorem goalr_any (n : Nat) (gl : List Int) (rv gv : Value) (g : Int) (w : World) (hg : IntsAt w gv gl) (hgl : gl.length ≤ 13) (hgc : coefsB gl = true) (hg1 : -100000000000 ≤ g) (hg2 : g ≤ 100000000000) :
    Calls Try.prog 35 #[.agg #[.int .i64 n, rv, gv], .int .i64 g] w (GoalQ gl g w) := by
  obtain ⟨a, c, rfl, hlc, hcm, hc⟩ := id hg
  have HB := hide hgc
  clear hgc
  have hmk := @mkInts gl.length (by omega)
  go_enter Try.func35, Try.ntmps35
  go_wp2_with fail
  generalize hX1 : World.alloc w _ = X1
  have zX1 : X1.heap.size = w.heap.size + 1 := by rw [← hX1]; simp
  have bX1 : Below w.heap.size w X1 := by rw [← hX1]; exact bal w _
  have kP_1 : Blk X1 (w.heap.size) [.int .i64 n, rv, .slice a gl.length c] 27 := by rw [← hX1]; exact Blk.newA w _ (by first | rfl | simp [negs0_nil])
  generalize hX2 : World.alloc X1 _ = X2
  have zX2 : X2.heap.size = w.heap.size + 1 + 1 := by rw [← hX2]; simp [zX1]
  have bX2 : Below X1.heap.size X1 X2 := by rw [← hX2]; exact bal X1 _
  have kR_2 : Blk X2 (w.heap.size + 1) [.int .i64 0, .int .i64 0, .int .i64 0, .int .i64 0, .slice none 0 0, .int .i64 0] 67 := by rw [← hX2, ← zX1]; exact Blk.newA X1 _ (by first | rfl | simp [negs0_nil])
  have kP_2 := kP_1.later bX2
  generalize hX3 : World.alloc X2 _ = X3
  have zX3 : X3.heap.size = w.heap.size + 1 + 1 + 1 := by rw [← hX3]; simp [zX2]
  have bX3 : Below X2.heap.size X2 X3 := by rw [← hX3]; exact bal X2 _
  have kC_3 : Blk X3 (w.heap.size + 1 + 1) ((negs0 gl 0).map (Value.int .i64)) 3 := by rw [← hX3, ← zX2]; exact Blk.newA X2 _ (by first | rfl | simp [negs0_nil])
  have kP_3 := kP_2.later bX3
  have kR_3 := kR_2.later bX3
  generalize hX4 : World.alloc X3 _ = X4
  have zX4 : X4.heap.size = w.heap.size + 1 + 1 + 1 + 1 := by rw [← hX4]; simp [zX3]
  have bX4 : Below X3.heap.size X3 X4 := by rw [← hX4]; exact bal X3 _
  have kG : Blk X4 (w.heap.size + 1 + 1 + 1) [.int .i64 0, .int .i64 0, .int .i64 0, .int .i64 0, .slice (some ⟨w.heap.size + 1 + 1, 0, none⟩) gl.length gl.length, .int .i64 (-g - 1)] 67 := by rw [← hX4, ← zX3]; exact Blk.newA X3 _ (by first | rfl | simp [negs0_nil])
  have kP := kP_3.later bX4
  have kR := kR_3.later bX4
  have kC := kC_3.later bX4
  have Xb := below2 (below2 (below2 (bX1) bX2) bX3) bX4
  have Xz := zX4
  clear hX1 zX1 bX1 hX2 zX2 bX2 hX3 zX3 bX3 hX4 zX4 bX4 kP_1 kP_2 kP_3 kR_2 kR_3 kC_3
  have hP0 := kP
  have hzz : w.heap.size + 1 + 1 + 1 < X4.heap.size := by omega
  have HZ := hide Xz
  clear Xz
  go_loopw [6] (fun i wr => ∃ k : Nat, k ≤ gl.length ∧ i = .int .i64 k ∧ Blk wr (w.heap.size + 1 + 1) ((negs0 gl k).map (Value.int .i64)) 3 ∧ Blk wr (w.heap.size + 1) [.int .i64 0, .int .i64 0, .int .i64 0, .int .i64 0, .slice none 0 0, .int .i64 0] 67 ∧
      Blk wr (w.heap.size + 1 + 1 + 1) [.int .i64 0, .int .i64 0, .int .i64 0, .int .i64 0, .slice (some ⟨w.heap.size + 1 + 1, 0, none⟩) gl.length gl.length, .int .i64 (-g - 1)] 67 ∧ Below (w.heap.size + 1) X4 wr) (fun i _ => gl.length - (intOf i).toNat)
  case atStart => exact ⟨0, by omega, rfl, kC, kR, kG, Below.refl _ _⟩
  case round =>
    obtain ⟨k, hk, rfl, hC, hR, hG, hbr⟩ := hrel
    have p2 := (hP0.below hbr (by omega)).cell 2 rfl
    have hbw := Xb.trans (hbr.mono (by omega))
    by_cases hlt : k < gl.length
    · obtain ⟨b, o, rfl, hck⟩ := hc k hlt
      have hbk := all_at (d := 0) HB.out hlt
      simp only [bndB, decide_eq_true_eq] at hbk
      have HN := hide (negs0_set (l := gl) hlt)
      have hC' := hC.set k (.int .i64 (-(gl.getD k 0)))
      rw [← List.map_set, HN.out] at hC'
      have f4 := hC.frozen k
      have hnl := negs0_len (l := gl) (k := k) hk
      obtain ⟨u, hu⟩ : ∃ u, wr.cell? ⟨w.heap.size + 1 + 1, k, none⟩ = some u := ⟨_, hC.cell k (by rw [List.getElem?_map, List.getElem?_eq_getElem (by omega)]; rfl)⟩
      have ck := keep hbw hck
      have g4 := hG.cell 4 rfl
      generalize gl.getD k 0 = x at hck hbk hC' ck
      have hkn : ((k : Nat) : Int) ≤ 9223372036854775807 := by omega
      clear hc hnl HN
      go_wp2_with fail
      go_region
      all_goals
        go_wp2_with fail
        go_roundw
        case rel =>
          refine ⟨k + 1, by omega, by go_num, hC'.later (Below.refl _ _).drew, (hR.other (by omega) _ _).later (Below.refl _ _).drew, (hG.other (by omega) _ _).later (Below.refl _ _).drew, ?_⟩
          exact (hbr.setCell (p := ⟨w.heap.size + 1 + 1, k, none⟩) (Nat.le_succ _) _).drew
        case measure => simp [intOf]; omega
    · obtain rfl : k = gl.length := by omega
      have x0 := hG.cell 0 rfl
      have x1 := hG.cell 1 rfl
      have x2 := hG.cell 2 rfl
      have x3 := hG.cell 3 rfl
      have x4 := hG.cell 4 rfl
      have x5 := hG.cell 5 rfl
      have y0 := hR.cell 0 rfl
      have y1 := hR.cell 1 rfl
      have y2 := hR.cell 2 rfl
      have y3 := hR.cell 3 rfl
      have y4 := hR.cell 4 rfl
      have y5 := hR.cell 5 rfl
      have g0 := hR.frozen 0
      have g1 := hR.frozen 1
      have g2 := hR.frozen 2
      have g3 := hR.frozen 3
      have g4 := hR.frozen 4
      have g5 := hR.frozen 5
      go_wp2_with fail
      obtain ⟨hF1, hF2, hF3⟩ := set6 hR (.int .i64 0) (.int .i64 0) (.int .i64 0) (.int .i64 0) (.slice (some ⟨w.heap.size + 1 + 1, 0, none⟩) gl.length gl.length) (.int .i64 (-g - 1))
      have hC2 := Blk.other (Blk.other (Blk.other (Blk.other (Blk.other (Blk.other hC (show w.heap.size + 1 + 1 ≠ w.heap.size + 1 by omega) 0 (.int .i64 0)) (show w.heap.size + 1 + 1 ≠ w.heap.size + 1 by omega) 1 (.int .i64 0)) (show w.heap.size + 1 + 1 ≠ w.heap.size + 1 by omega) 2 (.int .i64 0)) (show w.heap.size + 1 + 1 ≠ w.heap.size + 1 by omega) 3 (.int .i64 0)) (show w.heap.size + 1 + 1 ≠ w.heap.size + 1 by omega) 4 (.slice (some ⟨w.heap.size + 1 + 1, 0, none⟩) gl.length gl.length)) (show w.heap.size + 1 + 1 ≠ w.heap.size + 1 by omega) 5 (.int .i64 (-g - 1))
      generalize hwf : World.setCell _ ⟨w.heap.size + 1, 5, none⟩ _ = wf at hF1 hF2 hF3 hC2 ⊢
      have r0 := hF1.cell 0 rfl
      have r1 := hF1.cell 1 rfl
      have r2 := hF1.cell 2 rfl
      have r3 := hF1.cell 3 rfl
      have r4 := hF1.cell 4 rfl
      have r5 := hF1.cell 5 rfl
      refine bodyPost_ret (v := rowV ⟨0, 0, 0, 0, gl.map fun x => -x, -(g + 1)⟩ (.slice (some ⟨w.heap.size + 1 + 1, 0, none⟩) gl.length gl.length)) (by simp [results, Try.results35, go_sem, r0, r1, r2, r3, r4, r5]; omega) rfl ?_
      rw [negs0_full] at hC2
      exact ⟨w.heap.size + 1 + 1, by omega, rfl, hC2, hF2 _ _ hbw (by omega)⟩
end Go.Proofs.Ytppfdjjhloaopaa
/- A copy of rows, with the goal's row behind it. No condition. -/
namespace Go.Proofs.Ytppfdjjhloaopaa
open Go.RowKit

theorem OwnR.empty {W : World} {b0 B k : Nat} {e : TypeId} (h : Blk W b0 [] e) (hB : B ≤ b0) : OwnR W B e k (.slice (some ⟨b0, 0, none⟩) 0 0) [] :=
  ⟨⟨by simp, .inr ⟨b0, 0, #[], rfl, hB, h, Nat.le_refl _, by unfold maxLen; omega, by simp, by simp⟩⟩, fun r hr => by cases hr⟩
theorem step_app_recs3 {W : World} {ops : Array Oper} {o : Oper} {T : Array Value} {D : List Deferred} {K : Act → World → Prop} {Q : Exit → Act → World → Prop} {E : Prop} {e t : TypeId} {k by_ : Nat} {z : Value}
    (hinfo : (Try.prog.info? e).map (fun i => (i.zero, i.size, i.bytes)) = some (some z, k, by_)) (hzk : z.cells.size = k) (hk : 0 < k) (hu : Try.prog.underlying t = some (.slice e)) (hgd : o.guard = none) (s x : Operand)
    (ho : o.op = .call { callee := .builtin .append, args := #[s, x], argTypes := #[t, t] }) (B : Nat) (v : Value) (L : List (List Value)) (hs : Act.eval ⟨T, D⟩ s = v) (hown : OwnR W B e k v L)
    (xa : Option Addr) (m c : Nat) (Lx : List (List Value)) (hm : m = Lx.length) (hx : Act.eval ⟨T, D⟩ x = .slice xa m c) (h6 : ∀ r ∈ Lx, r.length = k) (hone : ∀ u ∈ Lx.flatten, u.oneCell' = true)
    (hcells : ∀ b, xa = some b → ∀ j u, Lx.flatten[j]? = some u → W.cell? (b.add j) = some u) (hnone : xa = none → Lx = []) (hlen : (L.length + Lx.length) * by_ ≤ 140737488355328) (hlen2 : L.length + Lx.length < 1000000) (hB : B ≤ W.heap.size)
    (h : ∀ v' w', OwnR w' B e k v' (L ++ Lx) → W.grownBy w' v.ownBlock → K (Act.put ⟨T, D⟩ o.dst v') w') :
    if Region.wanted o (yielded ops T) = true then Oper.wp Try.prog o ⟨T, D⟩ W K Q else E :=
  step_app_recs2 (a := ⟨T, D⟩) hinfo hzk hk hu hgd s x ho B v L hs hown xa m c Lx hm hx h6 hone hcells hnone hlen hlen2 hB h
/-- a row in one block, its numbers in another -/
def GoalAt (gl : List Int) (g : Int) (B : Nat) (W : World) (v : Value) : Prop :=
  ∃ b8 b7 : Nat, B ≤ b8 ∧ v = .slice (some ⟨b8, 0, none⟩) 1 1 ∧ Blk W b8 (rowCells (goalF gl g) (.slice (some ⟨b7, 0, none⟩) gl.length gl.length)) 67 ∧ Blk W b7 ((goalF gl g).coef.map (Value.int .i64)) 3
theorem GoalAt.later {gl : List Int} {g : Int} {B : Nat} {W W' : World} {v : Value} (h : GoalAt gl g B W v) (hb : Below W.heap.size W W') : GoalAt gl g B W' v :=
  let ⟨b8, b7, h0, h1, h2, h3⟩ := h
  ⟨b8, b7, h0, h1, h2.later hb, h3.later hb⟩
theorem Blk.ne0 {W : World} {b c : Nat} {vs us : List Value} {t t' : TypeId} (h : Blk W b vs t) (k : Blk W c us t') (ht : vs ≠ us) : b ≠ c := fun e => by
  subst e
  have := (show W.heap[b]? = _ from h).symm.trans (show W.heap[b]? = _ from k)
  simp at this; exact ht this.1
theorem GoalAt.grown {gl : List Int} {g : Int} {B b0 : Nat} {W W' : World} {v : Value} (h : GoalAt gl g B W v) (h0 : Blk W b0 [] 67) (hg : W.grownBy W' (some b0)) : GoalAt gl g B W' v := by
  obtain ⟨b8, b7, k0, k1, k2, k3⟩ := h
  refine ⟨b8, b7, k0, k1, k2.grown hg ?_, k3.grown hg ?_⟩
  · have := h0.ne0 k2 (by simp [rowCells]); simpa using this
  · have := h0.ne k3 (by decide); simpa using this
theorem goal_coef_len (gl : List Int) (g : Int) : (goalF gl g).coef.length = gl.length := by simp [goalF]
/-- behind the append of the goal's row -/
theorem goal_rows {W0 W W' : World} {rows : List RowD} {gl : List Int} {g : Int} {Lr : List (List Value)} {v v' : Value} (hl : Lr.length = rows.length) (hgl : gl.length ≤ 13)
    (hs : ∀ i, i < rows.length → ∃ cv, Lr.getD i [] = rowCells (rows.getD i row0) cv ∧ IntsAt W0 cv (rows.getD i row0).coef) (h0 : Below W0.heap.size W0 W) (hO : OwnR W W0.heap.size 67 6 v Lr)
    {b7 : Nat} (hb7 : Blk W b7 ((goalF gl g).coef.map (Value.int .i64)) 3) (hO' : OwnR W' W0.heap.size 67 6 v' (Lr ++ [rowCells (goalF gl g) (.slice (some ⟨b7, 0, none⟩) gl.length gl.length)])) (hg : W.grownBy W' v.ownBlock) :
    RowsAt W' v' (rows ++ [goalF gl g]) := by
  have hb := h0.trans (below_own hO h0.size hg)
  have h7 : Blk W' b7 ((goalF gl g).coef.map (Value.int .i64)) 3 := by
    refine hb7.grown hg ?_
    rcases hO.form with ⟨e, -⟩ | ⟨g', c', cur, e, -, e3, -⟩
    · rw [e]; simp [Value.ownBlock]
    · rw [e]; simp only [Value.ownBlock]
      intro he
      have he : g' = b7 := Option.some.inj he
      subst he
      have := (show W.heap[g']? = _ from hb7).symm.trans e3
      simp at this
  refine (OwnR.rows hO' (l := rows ++ [goalF gl g]) (by simp [hl]) fun i hi => ?_)
  rcases Nat.lt_or_ge i rows.length with h1 | h1
  · obtain ⟨cv, e, hc⟩ := hs i h1
    rw [getD_app_left _ _ _ _ (by omega), getD_app_left _ _ _ _ h1]
    exact ⟨cv, e, hc.below hb⟩
  · have hi' : i = rows.length := by simp at hi; omega
    subst hi'
    rw [getD_app_right _ _ _ _ (by omega), getD_app_right _ _ _ _ (Nat.le_refl _), hl, Nat.sub_self]
    refine ⟨_, rfl, ?_⟩
    have := (h7.ints (B := 0) (Nat.zero_le _) (by rw [goal_coef_len]; omega)).keeps (keeps_frm _ _)
    rwa [goal_coef_len] at this
theorem news2 {W : World} {b0 : Nat} {r : List Value} {t : TypeId} (h : Blk W b0 r t) : ∀ b, (some ⟨b0, 0, none⟩ : Option Addr) = some b → ∀ j u, [r].flatten[j]? = some u → W.cell? (b.add j) = some u := fun b hb j u hj => by
  cases hb
  have h9 := h.cell j (by simpa using hj)
  cases j <;> simpa [Addr.add] using h9
end Go.Proofs.Ytppfdjjhloaopaa
/- Plain words for the reference of programs: its own ways lead to the same answers. No condition. -/
namespace Go.Proofs.Ytppfdjjhloaopaa

theorem broken_none (l : List RowD) (s : Nat) : decide ((brokenUp l s l.length).length = 0) = l.all fun r => decide (chosenF r.coef s ≤ r.most) := by
  rw [Bool.eq_iff_iff, decide_eq_true_eq, List.all_eq_true]
  unfold brokenUp
  rw [List.length_map, List.length_eq_zero_iff, List.filter_eq_nil_iff]
  constructor
  · intro h r hr
    obtain ⟨i, hi, rfl⟩ := List.getElem_of_mem hr
    have := h i (List.mem_range.2 hi)
    rw [List.getD_eq_getElem?_getD, List.getElem?_eq_getElem hi] at this
    simpa [keptB] using this
  · intro h i hi
    have hi := List.mem_range.1 hi
    have := h _ (List.getElem_mem hi)
    rw [List.getD_eq_getElem?_getD, List.getElem?_eq_getElem hi]
    simpa [keptB] using this
theorem keeps_broken (p : ProgD) (s : Int) : keepsB p s = (choiceB p s && decide ((brokenF p s).length = 0)) := by
  unfold keepsB brokenF
  cases h : choiceB p s
  · rfl
  · rw [if_pos rfl, broken_none]
/-- the first of the best of a list, from its end -/
def downStep (g : List Int) (s : Nat) (b : BestD) : BestD := if b.found && decide (chosenF g s < b.gain) then b else ⟨true, s, chosenF g s⟩
def bestDown (g : List Int) (l : List Nat) : BestD := l.foldr (downStep g) best0
theorem foldl_best (g : List Int) : ∀ (l : List Nat) (b : BestD), b.found = true → l.foldl (bestStep g) b = if (bestUp g l).found && decide (b.gain < (bestUp g l).gain) then bestUp g l else b
  | [], b, _ => by simp [bestUp, best0]
  | x :: l, b, hb => by
    have i1 := foldl_best g l ⟨true, x, chosenF g x⟩ rfl
    have i2 := foldl_best g l b hb
    have e0 : bestStep g best0 x = ⟨true, x, chosenF g x⟩ := by simp [bestStep, best0]
    have hU : bestUp g (x :: l) = List.foldl (bestStep g) ⟨true, x, chosenF g x⟩ l := by
      show List.foldl (bestStep g) (bestStep g best0 x) l = _
      rw [e0]
    rw [hU, i1]
    have hs : bestStep g b x = if chosenF g x ≤ b.gain then b else ⟨true, x, chosenF g x⟩ := by unfold bestStep; simp [hb]
    show List.foldl (bestStep g) (bestStep g b x) l = _
    rw [hs]
    generalize bestUp g l = U at *
    generalize chosenF g x = c at *
    obtain ⟨uf, us, ug⟩ := U
    obtain ⟨bf, bs, bg⟩ := b
    have hb : bf = true := hb
    subst hb
    clear hs hU e0
    by_cases hc : c ≤ bg
    · rw [if_pos hc, i2]
      cases uf
      · simp; omega
      · by_cases h1 : bg < ug
        · have h2 : c < ug := by omega
          simp [h1, h2]
        · by_cases h2 : c < ug
          · simp [h1, h2]
          · simp [h1, h2]; omega
    · rw [if_neg hc, i1]
      cases uf
      · simp; omega
      · by_cases h2 : c < ug
        · have h1 : bg < ug := by omega
          simp [h1, h2]
        · have h3 : bg < c := by omega
          simp [h2, h3]
theorem bestDown_eq (g : List Int) : ∀ l : List Nat, bestDown g l = bestUp g l
  | [] => rfl
  | x :: l => by
    have e0 : bestStep g best0 x = ⟨true, x, chosenF g x⟩ := by simp [bestStep, best0]
    show downStep g x (bestDown g l) = List.foldl (bestStep g) (bestStep g best0 x) l
    rw [bestDown_eq g l, e0, foldl_best g l _ rfl]
    unfold downStep
    generalize bestUp g l = U
    cases h : U.found && decide (chosenF g x < U.gain) <;> simp
theorem bestDown_step {g : List Int} {l : List Nat} {i : Nat} (h : i < l.length) : bestDown g (l.drop i) = downStep g (l.getD i 0) (bestDown g (l.drop (i + 1))) := by
  rw [List.drop_eq_getElem_cons h, List.getD_eq_getElem?_getD, List.getElem?_eq_getElem h]; rfl
/-- how many of an ascending list of indices are met among the first k -/
def atK (rows : List Int) : Nat → Nat
  | 0 => 0
  | k + 1 => if decide (atK rows k < rows.length) && decide (rows.getD (atK rows k) 0 = (k : Int)) then atK rows k + 1 else atK rows k
def hitK (rows : List Int) (k : Nat) : Bool := decide (atK rows k < rows.length) && decide (rows.getD (atK rows k) 0 = (k : Int))
def outK (l : List RowD) (rows : List Int) (k : Nat) : List RowD := ((List.range k).filter fun (i : Nat) => !hitK rows i).map fun i => l.getD i row0
theorem atK_yes {rows : List Int} {k : Nat} (h : hitK rows k = true) : atK rows (k + 1) = atK rows k + 1 := by
  unfold hitK at h; simp only [atK]; rw [if_pos h]
theorem atK_no {rows : List Int} {k : Nat} (h : hitK rows k = false) : atK rows (k + 1) = atK rows k := by
  unfold hitK at h; simp only [atK]; rw [if_neg (by rw [h]; simp)]
theorem outK_no {l : List RowD} {rows : List Int} {k : Nat} (h : hitK rows k = false) : outK l rows (k + 1) = outK l rows k ++ [l.getD k row0] := by
  simp only [outK, List.range_succ, List.filter_append, List.map_append, List.filter_cons, h]; simp
theorem outK_yes {l : List RowD} {rows : List Int} {k : Nat} (h : hitK rows k = true) : outK l rows (k + 1) = outK l rows k := by
  simp only [outK, List.range_succ, List.filter_append, List.map_append, List.filter_cons, h]; simp
theorem outK_le (l : List RowD) (rows : List Int) (k : Nat) : (outK l rows k).length ≤ k := by
  have := List.length_filter_le (fun (i : Nat) => !hitK rows i) (List.range k)
  simpa [outK] using this
theorem atK_le (rows : List Int) : ∀ k, atK rows k ≤ rows.length ∧ atK rows k ≤ k
  | 0 => by simp [atK]
  | k + 1 => by
    have ih := atK_le rows k
    cases h : hitK rows k
    · rw [atK_no h]; omega
    · rw [atK_yes h]
      simp only [hitK, Bool.and_eq_true, decide_eq_true_eq] at h
      omega
theorem atK_mono (rows : List Int) {a : Nat} : ∀ {b : Nat}, a ≤ b → atK rows a ≤ atK rows b
  | 0, h => by obtain rfl : a = 0 := by omega
               exact Nat.le_refl _
  | b + 1, h => by
    rcases Nat.lt_or_ge b a with h1 | h1
    · obtain rfl : a = b + 1 := by omega
      exact Nat.le_refl _
    · have ih := atK_mono rows h1
      cases hh : hitK rows b
      · rw [atK_no hh]; exact ih
      · rw [atK_yes hh]; omega
theorem atK_met (rows : List Int) : ∀ k j, j < atK rows k → ∃ m, m < k ∧ rows.getD j 0 = (m : Int) ∧ atK rows m = j
  | 0, j, h => by simp [atK] at h
  | k + 1, j, h => by
    cases hh : hitK rows k
    · rw [atK_no hh] at h
      obtain ⟨m, h1, h2, h3⟩ := atK_met rows k j h
      exact ⟨m, by omega, h2, h3⟩
    · rw [atK_yes hh] at h
      rcases Nat.lt_or_ge j (atK rows k) with h4 | h4
      · obtain ⟨m, h1, h2, h3⟩ := atK_met rows k j h4
        exact ⟨m, by omega, h2, h3⟩
      · obtain rfl : j = atK rows k := by omega
        simp only [hitK, Bool.and_eq_true, decide_eq_true_eq] at hh
        exact ⟨k, by omega, hh.2, rfl⟩
theorem atK_ok {rows : List Int} {n : Nat} (h : atK rows n = rows.length) : okUp rows n rows.length = true := by
  refine List.all_eq_true.2 fun i hi => ?_
  have hi := List.mem_range.1 hi
  obtain ⟨m, h1, h2, h3⟩ := atK_met rows n i (by omega)
  simp only [okAt, isInB, Bool.and_eq_true, Bool.or_eq_true, decide_eq_true_eq]
  refine ⟨by omega, ?_⟩
  rcases Nat.eq_zero_or_pos i with h0 | h0
  · exact .inl h0
  · right
    obtain ⟨m', h1', h2', h3'⟩ := atK_met rows n (i - 1) (by omega)
    rw [h2, h2']
    rcases Nat.lt_or_ge m' m with h4 | h4
    · omega
    · have := atK_mono rows h4
      omega
theorem ok_atK {rows : List Int} {n : Nat} (h : okUp rows n rows.length = true) : atK rows n = rows.length := by
  have ha := okUp_asc h
  have hr : ∀ j, j < rows.length → 0 ≤ rows.getD j 0 ∧ rows.getD j 0 < n := fun j hj => by
    have := List.all_eq_true.1 h j (List.mem_range.2 hj)
    simp only [okAt, isInB, Bool.and_eq_true, decide_eq_true_eq] at this
    omega
  have key : ∀ k, ∀ j, atK rows k ≤ j → j < rows.length → (k : Int) ≤ rows.getD j 0 := by
    intro k
    induction k with
    | zero => intro j _ hj; exact (hr j hj).1
    | succ k ih =>
      intro j h1 hj
      cases hh : hitK rows k
      · rw [atK_no hh] at h1
        have h2 := ih (atK rows k) (Nat.le_refl _) (by omega)
        have h3 : rows.getD (atK rows k) 0 ≤ rows.getD j 0 := by
          rcases Nat.lt_or_ge (atK rows k) j with h4 | h4
          · exact Int.le_of_lt (ha _ _ h4 hj)
          · obtain rfl : j = atK rows k := by omega
            exact Int.le_refl _
        have h5 : rows.getD (atK rows k) 0 ≠ (k : Int) := fun he => by
          simp only [hitK, Bool.and_eq_false_iff, decide_eq_false_iff_not] at hh
          rcases hh with h6 | h6
          · omega
          · exact h6 he
        omega
      · rw [atK_yes hh] at h1
        simp only [hitK, Bool.and_eq_true, decide_eq_true_eq] at hh
        have := ha (atK rows k) j (by omega) hj
        omega
  have hle := atK_le rows n
  rcases Nat.lt_or_ge (atK rows n) rows.length with h1 | h1
  · have h2 := key n _ (Nat.le_refl _) h1
    have h3 := hr _ h1
    omega
  · omega
theorem hit_mem {rows : List Int} {n : Nat} (h : atK rows n = rows.length) {k : Nat} : hitK rows k = memB rows k := by
  rw [Bool.eq_iff_iff]
  simp only [hitK, memB, Bool.and_eq_true, decide_eq_true_eq, List.any_eq_true]
  constructor
  · rintro ⟨h1, h2⟩
    exact ⟨_, getD_mem rows _ h1, by rw [h2]; simp⟩
  · rintro ⟨x, hx, he⟩
    obtain ⟨j, hj, rfl⟩ := List.getElem_of_mem hx
    have he : rows[j] = (k : Int) := by simpa using he
    obtain ⟨m, h1, h2, h3⟩ := atK_met rows n j (by omega)
    rw [List.getD_eq_getElem?_getD, List.getElem?_eq_getElem hj] at h2
    have h2 : rows[j] = (m : Int) := h2
    obtain rfl : m = k := by omega
    rw [h3]
    exact ⟨hj, by rw [List.getD_eq_getElem?_getD, List.getElem?_eq_getElem hj]; exact h2⟩
theorem outK_eq {l : List RowD} {rows : List Int} {n : Nat} (h : atK rows n = rows.length) : outK l rows n = keptUp l rows n := by
  unfold outK keptUp
  congr 1
  exact List.filter_congr fun i _ => by rw [hit_mem h]
theorem okW_at (p : ProgD) (l : List Int) : okW p l = (validB p && decide (l.length ≤ p.rows.length) && decide (atK l p.rows.length = l.length)) := by
  unfold okW
  cases hV : validB p
  · simp
  · cases h : okUp l p.rows.length l.length
    · have : ¬ atK l p.rows.length = l.length := fun he => by have := atK_ok he; rw [h] at this; cases this
      simp [this]
    · have h1 := okUp_len h
      have h2 := ok_atK h
      simp [h1, h2]
end Go.Proofs.Ytppfdjjhloaopaa
/- Plain words: the least sum of a row, number by number; the plain proof's two cases; a program cut to a few rows. No condition. -/
namespace Go.Proofs.Ytppfdjjhloaopaa

/-- the least sum of the first k numbers, where the first d things are decided -/
def leastK (l : List Int) (d s : Nat) : Nat → Int
  | 0 => 0
  | k + 1 => leastK l d s k + (if k < d then (if s / 2 ^ k % 2 = 1 then l.getD k 0 else 0) else if l.getD k 0 < 0 then l.getD k 0 else 0)
theorem leastK_low (l : List Int) (d s : Nat) : ∀ k, k ≤ d → leastK l d s k = chosK (l.take d) s k
  | 0, _ => rfl
  | k + 1, h => by
    simp only [leastK, chosK]
    rw [leastK_low l d s k (by omega), if_pos (by omega), getD_take (by omega)]
theorem leastK_high (l : List Int) (d s : Nat) : ∀ j, leastK l d s (d + j) = chosK (l.take d) s d + negK (l.drop d) j
  | 0 => by
    show leastK l d s d = _
    rw [leastK_low l d s d (Nat.le_refl _)]; simp [negK]
  | j + 1 => by
    show leastK l d s (d + j + 1) = _
    simp only [leastK, negK]
    rw [leastK_high l d s j, if_neg (by omega), getD_drop]; omega
theorem leastK_eq {l : List Int} {d s : Nat} (h : d ≤ l.length) : leastK l d s l.length = leastF l d s := by
  have h1 := leastK_high l d s (l.length - d)
  rw [show d + (l.length - d) = l.length by omega] at h1
  rw [h1]
  unfold leastF chosenF
  rw [List.length_take, List.length_drop, Nat.min_eq_left h]
theorem leastK_bound (l : List Int) (d s : Nat) (hl : coefsB l = true) : ∀ k, k ≤ l.length → -(1000000000 * k : Int) ≤ leastK l d s k ∧ leastK l d s k ≤ 1000000000 * k
  | 0, _ => by simp [leastK]
  | k + 1, h => by
    have ih := leastK_bound l d s hl k (by omega)
    have hb := all_at (d := 0) hl (k := k) (by omega)
    simp only [bndB, decide_eq_true_eq] at hb
    simp only [leastK]
    split
    · split <;> omega
    · split <;> omega
theorem growF_leaf {rows : List RowD} {d s : Nat} (h : rows.any (badB d s) = true) : ∀ (f k : Nat), growF rows f d s k = [leafF (idxF (badB d s) rows)]
  | 0, _ => rfl
  | f + 1, k => by simp only [growF]; rw [if_pos h]
theorem growF_node {rows : List RowD} {f d s k : Nat} (h : rows.any (badB d s) = false) : growF rows (f + 1) d s k =
    nodeF d (k + 1 : Nat) (k + 1 + (growF rows f (d + 1) s (k + 1)).length : Nat) :: (growF rows f (d + 1) s (k + 1) ++ growF rows f (d + 1) (s + 2 ^ d) (k + 1 + (growF rows f (d + 1) s (k + 1)).length)) := by
  simp only [growF]; rw [if_neg (by rw [h]; simp)]
/-- a row with at most 13 numbers -/
def cutR (r : RowD) : RowD := ⟨r.kind, r.a, r.b, r.at_, r.coef.take 13, r.most⟩
/-- the first k rows, with at most 13 numbers each -/
def cutUp (l : List RowD) (k : Nat) : List RowD := (l.take k).map cutR
def fewF (p : ProgD) : ProgD := ⟨p.vars, cutUp p.rows (min p.rows.length 20), p.gain.take 13⟩
theorem cutUp_succ {l : List RowD} {k : Nat} (h : k < l.length) : cutUp l (k + 1) = cutUp l k ++ [cutR (l.getD k row0)] := by
  unfold cutUp; rw [take_succ' l k row0 h, List.map_append]; rfl
theorem cutUp_len {l : List RowD} {k : Nat} (h : k ≤ l.length) : (cutUp l k).length = k := by
  unfold cutUp; rw [List.length_map, List.length_take]; omega
end Go.Proofs.Ytppfdjjhloaopaa
/- Walks of the small functions of package program and of its reference that only read: each returns what its plain word says. Conditions: as each theorem says (sizes; a choice that is not negative). -/
namespace Go.Proofs.Ytppfdjjhloaopaa
open Go.RowKit

set_option maxHeartbeats 400000 in
theorem total_any (l : List Int) (s : Nat) (v : Value) (w : World) (hv : IntsAt w v l) (hl : l.length ≤ 13) (hb : l.all bndB = true) :
    Calls Try.prog 34 #[v, .int .i64 s] w (Ret (.int .i64 (chosenF l s)) w) := by
  obtain ⟨a, c, rfl, -, -, hc⟩ := hv
  go_enter Try.func34, Try.ntmps34
  go_wp2
  go_loopw [5, 6] (fun s5 i wr => ∃ (k : Nat), k ≤ l.length ∧ i = .int .i64 k ∧ s5 = .int .i64 (chosK l s k) ∧ Below w.heap.size w wr) (fun _ i _ => l.length - (intOf i).toNat)
  case atStart => exact ⟨0, by omega, rfl, rfl, Below.refl _ _⟩
  case round =>
    obtain ⟨k, hk, rfl, rfl, hbr⟩ := hrel
    by_cases hlt : k < l.length
    · obtain ⟨b, o, rfl, hck⟩ := hc k hlt
      have hbd := chosK_bound l s hb k (by omega)
      have hbk := all_at (d := 0) hb hlt
      simp only [bndB, decide_eq_true_eq] at hbk
      have hfin : chosK l s (k + 1) = chosK l s k + l.getD k 0 * ((s / 2 ^ k % 2 : Nat) : Int) := by
        simp only [chosK]; rcases bit01 s k with h | h <;> simp [h]
      have hbit := bit01 s k
      generalize l.getD k 0 = x at hck hbk hfin
      generalize chosK l s k = t at hbd hfin ⊢
      have c1 := bwc (keep hbr hck)
      have HF := hide hfin
      clear hc hb hfin hbit
      go_wp2
      refine wp_region_bw (by kernel_rfl) (by kernel_rfl) ?_
      repeat (go_big_quiet_step (fail))
      refine wpQuiet_nil ?_
      rintro _ ⟨i, rfl⟩
      go_wp2
      go_roundw
      case rel => exact ⟨k + 1, by omega, by go_num, i64_eq (by rw [HF.out, tot_step s k x t hbk hbd (by omega)]), bwb i hbr hbr.size⟩
      case measure => simp [intOf]; omega
    · obtain rfl : k = l.length := by omega
      go_wp2
      go_ret
      exact ⟨rfl, hbr⟩
set_option maxHeartbeats 400000 in
theorem bounded_any (l : List Int) (v : Value) (w : World) (hv : IntsAt w v l) :
    Calls Try.prog 62 #[v] w (Ret (.bool (l.all bndB)) w) := by
  obtain ⟨a, c, rfl, hlc, hcm, hc⟩ := hv
  go_enter Try.func62, Try.ntmps62
  go_wp2
  go_loopw [3] (fun i wr => ∃ (k : Nat), k ≤ l.length ∧ i = .int .i64 k ∧ Hid ((l.take k).all bndB = true) ∧ Below w.heap.size w wr) (fun i _ => l.length - (intOf i).toNat)
  case atStart => exact ⟨0, by omega, rfl, rfl, Below.refl _ _⟩
  case round =>
    obtain ⟨k, hk, rfl, HA, hbr⟩ := hrel
    by_cases hlt : k < l.length
    · obtain ⟨b, o, rfl, hck⟩ := hc k hlt
      have HT := hide (all_take_succ (d := 0) (p := bndB) hlt HA.out)
      have HN := hide (all_no (d := 0) (p := bndB) hlt)
      generalize l.getD k 0 = x at hck HT HN
      have ck := keep hbr hck
      clear hc
      by_cases h1 : x < -1000000000
      · go_wp2
        go_ret
        exact ⟨ret_bool (HN.out (by simp [bndB]; omega)).symm, hbr⟩
      · by_cases h2 : 1000000000 < x
        · go_wp2
          go_ret
          exact ⟨ret_bool (HN.out (by simp [bndB]; omega)).symm, hbr⟩
        · go_wp2
          go_roundw
          case rel => exact ⟨k + 1, by omega, by go_num, HT.out (by simp [bndB]; omega), hbr⟩
          case measure => simp [intOf]; omega
    · go_wp2
      go_ret
      exact ⟨ret_bool (all_take_end (by omega) HA.out).symm, hbr⟩
end Go.Proofs.Ytppfdjjhloaopaa
/- Walks of row, Valid, Sum of the reference. Conditions: how the arguments lie in memory. -/
namespace Go.Proofs.Ytppfdjjhloaopaa
open Go.RowKit

set_option maxHeartbeats 1000000 in
theorem rowr_any (r : RowD) (cv : Value) (vars : Int) (w : World) (hv : IntsAt w cv r.coef) :
    Calls Try.prog 63 #[rowV r cv, .int .i64 vars] w (Ret (.bool (rightB r vars)) w) := by
  obtain ⟨a, c, rfl, hlc, hcm, -⟩ := id hv
  have hm1 : (r.coef.length : Int) ≤ 9223372036854775807 := by omega
  obtain ⟨w0, hw0, hb0, c0, c1, c2, c3, c4, c5⟩ := boxedRow w r (.slice a r.coef.length c)
  rw [← hw0] at hb0 c4 c5
  have hv0 := hv.below hb0
  have HF : Hid (rightB r vars = (lenB r.coef.length vars && coefsB r.coef && isInB (-1000000000000) r.most 1000000000000)) := hide rfl
  clear hw0 c0 c1 c2 c3
  by_cases h1 : (r.coef.length : Int) = vars
  · have H1 : Hid (lenB r.coef.length vars = true) := hide (by simp [lenB, h1])
    have e1 : ((r.coef.length : Int) == vars) = true := by simp [h1]
    clear h1
    cases h2 : coefsB r.coef
    · have h2' : r.coef.all bndB = false := h2
      go_enter Try.func63, Try.ntmps63
      go_wp2_with (go_at_call 62; refine (bounded_any r.coef _ _ hv0).mono ?_; rw [h2']; rintro e w1 ⟨rfl, hb1⟩)
      go_ret
      exact ⟨ret_bool (by rw [HF.out, H1.out, h2]; rfl), below2 hb0 hb1⟩
    · have h2' : r.coef.all bndB = true := h2
      by_cases h3 : -1000000000000 ≤ r.most
      · by_cases h4 : r.most ≤ 1000000000000
        · go_enter Try.func63, Try.ntmps63
          go_wp2_with (go_at_call 62; refine (bounded_any r.coef _ _ hv0).mono ?_; rw [h2']; rintro e w1 ⟨rfl, hb1⟩; have d5 := keep hb1 c5)
          go_ret
          exact ⟨ret_bool (by rw [HF.out, H1.out, h2]; simp [isInB]; omega), below2 hb0 hb1⟩
        · go_enter Try.func63, Try.ntmps63
          go_wp2_with (go_at_call 62; refine (bounded_any r.coef _ _ hv0).mono ?_; rw [h2']; rintro e w1 ⟨rfl, hb1⟩; have d5 := keep hb1 c5)
          go_ret
          exact ⟨ret_bool (by rw [HF.out, H1.out, h2]; simp [isInB]; omega), below2 hb0 hb1⟩
      · go_enter Try.func63, Try.ntmps63
        go_wp2_with (go_at_call 62; refine (bounded_any r.coef _ _ hv0).mono ?_; rw [h2']; rintro e w1 ⟨rfl, hb1⟩; have d5 := keep hb1 c5)
        go_ret
        exact ⟨ret_bool (by rw [HF.out, H1.out, h2]; simp [isInB]; omega), below2 hb0 hb1⟩
  · have H1 : Hid (lenB r.coef.length vars = false) := hide (by simp [lenB, h1])
    have e1 : ((r.coef.length : Int) == vars) = false := by simp [h1]
    clear h1
    go_enter Try.func63, Try.ntmps63
    go_wp2_with fail
    go_ret
    exact ⟨ret_bool (by rw [HF.out, H1.out]; rfl), hb0⟩
theorem rows_no {p : ProgD} {k : Nat} (hk : k < p.rows.length) (h : rightB (p.rows.getD k row0) p.vars = false) : rowsB p.rows p.vars = false := all_no (d := row0) hk h
/-- the reference's first test -/
def headB (p : ProgD) : Bool := isInB 0 p.vars 12 && fewB p.rows.length && lenB p.gain.length p.vars && coefsB p.gain
theorem validB_head (p : ProgD) : validB p = (headB p && rowsB p.rows p.vars) := by
  unfold validB headB
  cases isInB 0 p.vars 12 <;> cases fewB p.rows.length <;> cases rowsB p.rows p.vars <;> cases lenB p.gain.length p.vars <;> cases coefsB p.gain <;> rfl
set_option maxHeartbeats 2000000 in
theorem validr_any (p : ProgD) (rv gv : Value) (w : World) (hr : RowsAt w rv p.rows) (hg : IntsAt w gv p.gain) :
    Calls Try.prog 39 #[progV p rv gv] w (Ret (.bool (validB p)) w) := by
  obtain ⟨ra, rc, rfl, hrl, hrm, hrc⟩ := id hr
  obtain ⟨ga, gc, rfl, hgl, hgm, -⟩ := id hg
  have hm1 : (p.rows.length : Int) ≤ 9223372036854775807 := by omega
  have hm2 : (p.gain.length : Int) ≤ 9223372036854775807 := by omega
  obtain ⟨w0, hw0, hb0, c0, c1, c2⟩ := boxedProg w p.vars (.slice ra p.rows.length rc) (.slice ga p.gain.length gc)
  have HW := hide hw0
  rw [← hw0] at hb0 c0 c1 c2
  have hg0 := hg.below hb0
  have hr0 := hr.below hb0
  have HV := hide (validB_head p)
  have HH : Hid (headB p = (isInB 0 p.vars 12 && fewB p.rows.length && lenB p.gain.length p.vars && coefsB p.gain)) := hide rfl
  have HRC := hide hrc
  clear hw0 hrc
  by_cases h1 : p.vars < 0
  · have hx : Hid (isInB 0 p.vars 12 = false) := hide (by simp [isInB]; omega)
    go_enter Try.func39, Try.ntmps39
    go_wp2_with fail
    go_ret
    exact ⟨ret_bool (by rw [HV.out, HH.out]; rw [hx.out]; rfl), hb0⟩
  by_cases h2 : 12 < p.vars
  · have hx : Hid (isInB 0 p.vars 12 = false) := hide (by simp [isInB]; omega)
    go_enter Try.func39, Try.ntmps39
    go_wp2_with fail
    go_ret
    exact ⟨ret_bool (by rw [HV.out, HH.out]; rw [hx.out]; rfl), hb0⟩
  have hx1 : Hid (isInB 0 p.vars 12 = true) := hide (by simp [isInB]; omega)
  by_cases h3 : 300 < (p.rows.length : Int)
  · have hx : Hid (fewB p.rows.length = false) := hide (by simp [fewB]; omega)
    go_enter Try.func39, Try.ntmps39
    go_wp2_with fail
    go_ret
    exact ⟨ret_bool (by rw [HV.out, HH.out]; rw [hx1.out, hx.out]; rfl), hb0⟩
  have hx2 : Hid (fewB p.rows.length = true) := hide (by simp [fewB]; omega)
  by_cases h4 : (p.gain.length : Int) = p.vars
  case neg =>
    have hx : Hid (lenB p.gain.length p.vars = false) := hide (by simp [lenB, h4])
    have e1 : ((p.gain.length : Int) != p.vars) = true := by simpa using h4
    clear h4
    go_enter Try.func39, Try.ntmps39
    go_wp2_with fail
    go_ret
    exact ⟨ret_bool (by rw [HV.out, HH.out]; rw [hx1.out, hx2.out, hx.out]; rfl), hb0⟩
  have hx3 : Hid (lenB p.gain.length p.vars = true) := hide (by simp [lenB, h4])
  have e1 : ((p.gain.length : Int) != p.vars) = false := by simpa using h4
  clear h4
  cases h5 : coefsB p.gain
  · have h5' : p.gain.all bndB = false := h5
    go_enter Try.func39, Try.ntmps39
    go_wp2_with (go_at_call 62; refine (bounded_any p.gain _ _ hg0).mono ?_; rw [h5']; rintro e w1 ⟨rfl, hb1⟩)
    go_ret
    exact ⟨ret_bool (by rw [HV.out, HH.out]; rw [hx1.out, hx2.out, hx3.out, h5]; rfl), below2 hb0 hb1⟩
  · have h5' : p.gain.all bndB = true := h5
    have HH1 : Hid (headB p = true) := hide (by rw [HH.out, hx1.out, hx2.out, hx3.out, h5]; rfl)
    clear h5
    go_enter Try.func39, Try.ntmps39
    go_wp2_with (go_at_call 62; refine (bounded_any p.gain _ _ hg0).mono ?_; rw [h5']; rintro e w1 ⟨rfl, hb1⟩; have d0 := keep hb1 c0; have d1 := keep hb1 c1)
    go_loopw [3] (fun i wr => ∃ k : Nat, k ≤ p.rows.length ∧ i = .int .i64 k ∧ Hid ((p.rows.take k).all (rightB · p.vars) = true) ∧ Below w1.heap.size w1 wr) (fun i _ => p.rows.length - (intOf i).toNat)
    case atStart => exact ⟨0, by omega, rfl, rfl, Below.refl _ _⟩
    case round =>
      obtain ⟨k, hk, rfl, HA, hbr⟩ := hrel
      have k0 := keep hbr d0
      have k1 := keep hbr d1
      by_cases hlt : k < p.rows.length
      · obtain ⟨b, o, cv, rfl, hck⟩ := HRC.out k hlt
        have HT := hide (all_take_succ (d := row0) (p := (rightB · p.vars)) hlt HA.out)
        have HN := hide (rows_no (p := p) hlt)
        have hbx := below2 hb0 (below2 hb1 hbr)
        generalize p.rows.getD k row0 = x at hck HT HN
        obtain ⟨e0, e1', e2, e3, e4, e5, e6⟩ := hck.below hbx
        obtain ⟨ca, cc, rfl, -, -, -⟩ := id e6
        clear hck h5' c0 c1 c2 d0 d1
        have q0 := bwc e0
        have q1 := bwc e1'
        have q2 := bwc e2
        have q3 := bwc e3
        have q4 := bwc e4
        have q5 := bwc e5
        have l0 := bwc k0
        have l1 := bwc k1
        go_wp2_with fail
        have HCALL := hide (fun (i : Bw wr.heap.size wr) => rowr_any x (.slice ca x.coef.length cc) p.vars i.W (IntsIn.keeps (keeps_of_below i.h) e6))
        cases hx : rightB x p.vars
        all_goals
          rw [hx] at HCALL
          refine wp_region_bw (by kernel_rfl) (by kernel_rfl) ?_
          repeat (go_big_quiet_step ((go_at_call 63; exact quiet (HCALL.out _))))
          refine wpQuiet_nil ?_
          rintro _ ⟨i, rfl⟩
          go_wp2_with fail
        · go_ret
          exact ⟨ret_bool (by rw [HV.out, HH1.out, HN.out hx]; rfl), bwb i hbx hbx.size⟩
        · go_roundw
          case rel => exact ⟨k + 1, by omega, by go_num, HT.out hx, bwb i hbr hbr.size⟩
          case measure => simp [intOf]; omega
      · have hR : Hid (rowsB p.rows p.vars = true) := hide (all_take_end (by omega) HA.out)
        go_wp2_with fail
        go_ret
        exact ⟨ret_bool (by rw [HV.out, HH1.out, hR.out]; rfl), below2 hb0 (below2 hb1 hbr)⟩
end Go.Proofs.Ytppfdjjhloaopaa
/- Walks of Sum, Gain, keeps, Broken, Keeps, All of the reference. Conditions: how the arguments lie in memory. -/
namespace Go.Proofs.Ytppfdjjhloaopaa
open Go.RowKit

/-- the number of choices -/
theorem pow_U {n : Nat} (h : n ≤ 13) : ∃ T : Nat, T = 2 ^ n ∧ 1 ≤ T ∧ T ≤ 8192 ∧ wrap64 (2 ^ n) = (T : Int) ∧ IntKind.i64.wrap (2 ^ n) = (T : Int) ∧ (2 : Int) ^ n = (T : Int) := by
  have h1 : 2 ^ n ≤ 2 ^ 13 := Nat.pow_le_pow_right (by omega) h
  have h2 : 1 ≤ 2 ^ n := Nat.one_le_two_pow
  have h3 : (2 : Int) ^ n = ((2 ^ n : Nat) : Int) := by simp
  refine ⟨2 ^ n, rfl, h2, by omega, ?_, ?_, h3⟩
  · rw [h3, wrap_id (by omega) (by omega)]
  · rw [h3, IntKind.wrap_i64]; omega
theorem isIn_pow {s : Int} {n T : Nat} (h : (2 : Int) ^ n = (T : Int)) : isInB 0 s (2 ^ n - 1) = (decide (0 ≤ s) && decide (s < T)) := by
  rw [h]; unfold isInB
  rw [Bool.eq_iff_iff]; simp; omega
/-- what a choice of a valid program is -/
theorem choice_eq {p : ProgD} {s : Int} {T : Nat} (h : (2 : Int) ^ p.vars.toNat = (T : Int)) : choiceB p s = (validB p && (decide (0 ≤ s) && decide (s < T))) := by
  unfold choiceB; rw [isIn_pow h]
set_option maxHeartbeats 1000000 in
theorem keepsl_any (p : ProgD) (rv gv : Value) (s : Nat) (w : World) (hr : RowsAt w rv p.rows) (hrs : ∀ r ∈ p.rows, r.coef.length ≤ 13 ∧ coefsB r.coef = true) :
    Calls Try.prog 56 #[progV p rv gv, .int .i64 s] w (Ret (.bool (keptAll p.rows s)) w) := by
  obtain ⟨ra, rc, rfl, hrl, hrm, hrc⟩ := id hr
  have hm1 : (p.rows.length : Int) ≤ 9223372036854775807 := by omega
  have HK : Hid (keptAll p.rows s = p.rows.all (keptB · s)) := hide rfl
  have HR := hide hrs
  have HRC := hide hrc
  clear hrc hrs
  go_enter Try.func56, Try.ntmps56
  go_wp2_with fail
  generalize hW : World.alloc w _ = W0
  have hb0 : Below w.heap.size w W0 := by rw [← hW]; exact bal w _
  have hP : Blk W0 w.heap.size [.int .i64 p.vars, .slice ra p.rows.length rc, gv] 27 := by rw [← hW]; exact Blk.new w _ _
  clear hW
  go_loopw [5] (fun i wr => ∃ k : Nat, k ≤ p.rows.length ∧ i = .int .i64 k ∧ Hid ((p.rows.take k).all (keptB · s) = true) ∧ Below W0.heap.size W0 wr) (fun i _ => p.rows.length - (intOf i).toNat)
  case atStart => exact ⟨0, by omega, rfl, hide rfl, Below.refl _ _⟩
  case round =>
    obtain ⟨k, hk, rfl, HA, hbr⟩ := hrel
    have hbx := below2 hb0 hbr
    have pc := (hP.later hbr).cell 1 rfl
    by_cases hlt : k < p.rows.length
    · obtain ⟨b, o, cv, rfl, hck⟩ := HRC.out k hlt
      have hm := getD_mem p.rows k (d := row0) hlt
      have hq := HR.out _ hm
      have HT := hide (all_take_succ (d := row0) (p := (keptB · s)) hlt HA.out)
      have HN := hide (fun h => all_no (d := row0) (p := (keptB · s)) hlt h)
      generalize p.rows.getD k row0 = x at hck hm HT HN hq
      obtain ⟨e0, e1, e2, e3, e4, e5, e6⟩ := hck.below hbx
      obtain ⟨ca, cc, rfl, -, -, -⟩ := id e6
      clear hck
      have l1 := bwc pc
      have q4 := bwc e4
      have q5 := bwc e5
      have HCALL := hide (fun (i : Bw wr.heap.size wr) => total_any x.coef s _ i.W (IntsIn.keeps (keeps_of_below i.h) e6) hq.1 hq.2)
      have hkl : decide (k < p.rows.length) = true := by simpa using hlt
      by_cases hgt : x.most < chosenF x.coef s
      · have hx : keptB x s = false := by unfold keptB; exact decide_eq_false (by omega)
        have HX := hide hx
        clear hx
        go_wp2_with fail
        refine wp_region_bw (by kernel_rfl) (by kernel_rfl) ?_
        repeat (go_big_quiet_step ((go_at_call 34; exact quiet (HCALL.out _))))
        refine wpQuiet_nil ?_
        rintro _ ⟨i, rfl⟩
        go_wp2_with fail
        go_ret
        exact ⟨ret_bool (by rw [HK.out, HN.out HX.out]), bwb i hbx hbx.size⟩
      · have hx : keptB x s = true := by unfold keptB; exact decide_eq_true (by omega)
        have HX := hide hx
        clear hx
        go_wp2_with fail
        refine wp_region_bw (by kernel_rfl) (by kernel_rfl) ?_
        repeat (go_big_quiet_step ((go_at_call 34; exact quiet (HCALL.out _))))
        refine wpQuiet_nil ?_
        rintro _ ⟨i, rfl⟩
        go_wp2_with fail
        go_roundw
        case rel => exact ⟨k + 1, by omega, by go_num, HT.out HX.out, bwb i hbr hbr.size⟩
        case measure => simp [intOf]; omega
    · have hR : Hid (p.rows.all (keptB · s) = true) := hide (all_take_end (by omega) HA.out)
      go_wp2_with fail
      go_ret
      exact ⟨ret_bool (by rw [HK.out, hR.out]), hbx⟩
set_option maxHeartbeats 1000000 in
theorem allr_any (p : ProgD) (rv gv : Value) (w : World) (hr : RowsAt w rv p.rows) (hg : IntsAt w gv p.gain) :
    Calls Try.prog 33 #[progV p rv gv] w (RetM2 (fun c v u => IntsIn c v (allF p) ∧ u = .int .i64 (errF p)) w) := by
  obtain ⟨w0, hw0, hb0, c0, c1, c2⟩ := boxedProg w p.vars rv gv
  have hz0 : w.heap.size < w0.heap.size := by rw [← hw0]; simp
  rw [← hw0] at hb0 c0 c1 c2
  have HA : Hid (allF p = if validB p then (goodF p).map fun (s : Nat) => (s : Int) else []) := hide rfl
  have HE : Hid (errF p = if validB p then 0 else 330) := hide rfl
  have HG : Hid (goodF p = goodUp p.rows (2 ^ p.vars.toNat)) := hide rfl
  have hr0 := hr.below hb0
  have hg0 := hg.below hb0
  clear hw0
  cases hV : validB p
  · go_enter Try.func33, Try.ntmps33
    go_wp2_with (go_at_call 39; refine (validr_any p _ _ _ hr0 hg0).mono ?_; rw [hV]; rintro e w1 ⟨rfl, hb1⟩)
    go_ret2
    exact ⟨_, _, rfl, ⟨by rw [HA.out, hV]; exact IntsIn.nil _, by rw [HE.out, hV]; rfl⟩, below2 hb0 hb1⟩
  · obtain ⟨v0, v12, -, hrs, -, -⟩ := valid_parts hV
    obtain ⟨T, hT, -, hT2, hTc, hTi, -⟩ := pow_U (n := p.vars.toNat) (by omega)
    have HT := hide hT
    have HR : Hid (∀ r ∈ p.rows, r.coef.length ≤ 13 ∧ coefsB r.coef = true) := hide fun r h => ⟨by have := hrs r h; omega, (hrs r h).2.1⟩
    have HKP := hide (fun (s : Nat) (W : World) (h : Below w.heap.size w W) => keepsl_any p rv gv s W (hr.below h) HR.out)
    clear hrs hT
    go_enter Try.func33, Try.ntmps33
    go_wp2_with (go_at_call 39; refine (validr_any p _ _ _ hr0 hg0).mono ?_; rw [hV]; rintro e w1 ⟨rfl, hb1⟩; have d0 := keep hb1 c0; have d1 := keep hb1 c1; have d2 := keep hb1 c2)
    go_loopw [4, 5] (fun v i wr => ∃ (k : Nat), k ≤ T ∧ i = .int .i64 k ∧ OwnI wr w1.heap.size v ((goodUp p.rows k).map fun (s : Nat) => (s : Int)) ∧ Below w1.heap.size w1 wr) (fun _ i _ => T - (intOf i).toNat)
    case atStart => exact ⟨0, by omega, rfl, OwnI.nil _ _, Below.refl _ _⟩
    case round =>
      obtain ⟨k, hk, rfl, hown, hbr⟩ := hrel
      have hbx := below2 hb0 (below2 hb1 hbr)
      have p0 := keep hbr d0
      have p1 := keep hbr d1
      have p2 := keep hbr d2
      by_cases hlt : k < T
      · have hle := goodUp_le p.rows k
        have hkd : decide ((k : Int) < (T : Int)) = true := by simp; omega
        have HCALL := hide (HKP.out k)
        cases hx : keptAll p.rows k
        · have e1 := goodUp_no hx
          have HE1 := hide e1
          rw [hx] at HCALL
          clear e1
          go_wp2_with (go_at_call 56; refine (HCALL.out _ hbx).mono ?_; rintro e w2 ⟨rfl, hb2⟩)
          go_roundw
          case rel => exact ⟨k + 1, by omega, by go_num, by rw [HE1.out]; exact hown.later hb2, below2 hbr hb2⟩
          case measure => simp [intOf]; omega
        · have e1 := goodUp_yes hx
          have HE1 := hide e1
          rw [hx] at HCALL
          clear e1
          go_wp2_with (first | (go_at_call 56; refine (HCALL.out _ hbx).mono ?_; rintro e w2 ⟨rfl, hb2⟩; have hown2 := hown.later hb2; have hb12 := below2 hbr hb2) | (at_builtin; refine app_int rfl _ _ rfl w1.heap.size _ _ rfl hown2 k rfl (by simp; omega) hb12.size ?_; intro v' w3 hown3 hb3 hz3))
          go_roundw
          case rel => exact ⟨k + 1, by omega, by go_num, by rw [HE1.out, List.map_append]; exact hown3, hb12.trans hb3⟩
          case measure => simp [intOf]; omega
      · obtain rfl : k = T := by omega
        have hkd : decide ((k : Int) < (k : Int)) = false := by simp
        go_wp2_with fail
        go_ret2
        exact ⟨_, _, rfl, ⟨by rw [HA.out, hV, HG.out, ← HT.out]; exact hown.intsF (below2 hb0 hb1).size, by rw [HE.out, hV]; rfl⟩, hbx⟩
end Go.Proofs.Ytppfdjjhloaopaa
/- Walks of least and plain of the reference. Conditions: how the arguments lie in memory; sizes; that at the last thing some row refutes. -/
namespace Go.Proofs.Ytppfdjjhloaopaa
open Go.RowKit

set_option maxHeartbeats 1000000 in
theorem leastr_any (r : RowD) (cv : Value) (d s : Nat) (w : World) (hv : IntsAt w cv r.coef) (hl : r.coef.length ≤ 13) (hb : coefsB r.coef = true) (hd : d ≤ r.coef.length) :
    Calls Try.prog 57 #[rowV r cv, .int .i64 d, .int .i64 s] w (Ret (.int .i64 (leastF r.coef d s)) w) := by
  obtain ⟨a, c, rfl, hlc, hcm, hc⟩ := id hv
  have hm1 : (r.coef.length : Int) ≤ 9223372036854775807 := by omega
  have HF := hide (leastK_eq (s := s) hd)
  have HB := hide hb
  have HC := hide hc
  clear hc hb
  go_enter Try.func57, Try.ntmps57
  go_wp2_with fail
  generalize hW : World.alloc w _ = W0
  have hb0 : Below w.heap.size w W0 := by rw [← hW]; exact bal w _
  have hP : Blk W0 w.heap.size [.int .i64 r.kind, .int .i64 r.a, .int .i64 r.b, .int .i64 r.at_, .slice a r.coef.length c, .int .i64 r.most] 67 := by rw [← hW]; exact Blk.new w _ _
  clear hW
  go_loopw [7, 8] (fun s7 i wr => ∃ k : Nat, k ≤ r.coef.length ∧ i = .int .i64 k ∧ s7 = .int .i64 (leastK r.coef d s k) ∧ Below W0.heap.size W0 wr) (fun _ i _ => r.coef.length - (intOf i).toNat)
  case atStart => exact ⟨0, by omega, rfl, rfl, Below.refl _ _⟩
  case round =>
    obtain ⟨k, hk, rfl, rfl, hbr⟩ := hrel
    have pc := (hP.later hbr).cell 4 rfl
    have hbx := below2 hb0 hbr
    by_cases hlt : k < r.coef.length
    · obtain ⟨b, o, rfl, hck⟩ := HC.out k hlt
      have hbd := leastK_bound r.coef d s HB.out k hk
      have hbk := all_at (d := 0) HB.out hlt
      simp only [bndB, decide_eq_true_eq] at hbk
      have hk1 : leastK r.coef d s (k + 1) = leastK r.coef d s k + (if k < d then (if s / 2 ^ k % 2 = 1 then r.coef.getD k 0 else 0) else if r.coef.getD k 0 < 0 then r.coef.getD k 0 else 0) := rfl
      have hkl : decide (k < r.coef.length) = true := by simpa using hlt
      generalize r.coef.getD k 0 = x at hck hbk hk1
      generalize leastK r.coef d s k = t at hbd hk1 ⊢
      have HK := hide hk1
      have ck := keep hbx hck
      clear hk1 hck
      by_cases hkd : k < d
      · have HK2 : Hid (leastK r.coef d s (k + 1) = t + x * ((s / 2 ^ k % 2 : Nat) : Int)) := hide (by
          rw [HK.out, if_pos hkd]; rcases bit01 s k with h | h <;> simp [h])
        have c1 := bwc ck
        have p1 := bwc pc
        go_wp2_with fail
        refine wp_region_bw (by kernel_rfl) (by kernel_rfl) ?_
        repeat (go_big_quiet_step (fail))
        refine wpQuiet_nil ?_
        rintro _ ⟨i, rfl⟩
        go_wp2_with fail
        go_roundw
        case rel => exact ⟨k + 1, by omega, by go_num, i64_eq (by rw [HK2.out, tot_step s k x t hbk hbd (by omega)]), bwb i hbr hbr.size⟩
        case measure => simp [intOf]; omega
      · by_cases hx : x < 0
        · go_wp2_with fail
          go_roundw
          case rel => exact ⟨k + 1, by omega, by go_num, i64_eq (by rw [HK.out, if_neg hkd, if_pos hx]), hbr⟩
          case measure => simp [intOf]; omega
        · go_wp2_with fail
          go_roundw
          case rel => exact ⟨k + 1, by omega, by go_num, i64_eq (by rw [HK.out, if_neg hkd, if_neg hx]; simp), hbr⟩
          case measure => simp [intOf]; omega
    · obtain rfl : k = r.coef.length := by omega
      go_wp2_with fail
      go_ret
      exact ⟨ret_int HF.out, hbx⟩
theorem StepsOwn.yes {W : World} {B g c : Nat} {L : List (List Value)} {l : List StepD} (h : OwnR W B 54 4 (.slice (some ⟨g, 0, none⟩) L.length c) L) (hl : L.length = l.length)
    (hs : ∀ i, i < l.length → ∃ wv, L.getD i [] = stepCells (l.getD i st0) wv ∧ OwnW W B wv (l.getD i st0).wts) (k : Nat) (hk : k < l.length) (yes : Int) :
    StepsOwn (W.setCell ⟨g, k * 4 + 2, none⟩ (.int .i64 yes)) B (.slice (some ⟨g, 0, none⟩) L.length c) (l.set k ⟨(l.getD k st0).var, (l.getD k st0).no, yes, (l.getD k st0).wts⟩) := by
  have h1 := h.set k 2 (by omega) (by omega) (.int .i64 yes)
  have e1 : (L.set k ((L.getD k []).set 2 (.int .i64 yes))).length = L.length := List.length_set
  have hE := EffE.setRow h (j := k * 4 + 2) (.int .i64 yes)
  rw [← e1]
  refine ⟨_, by rw [e1]; exact h1, by simp [hl], fun i hi => ?_⟩
  rw [List.length_set] at hi
  by_cases hik : i = k
  · subst hik
    obtain ⟨wv, e, hw⟩ := hs i hi
    refine ⟨wv, ?_, ?_⟩
    · rw [getD_set_eq' _ (by omega), getD_set_eq' _ (by omega), e]; rfl
    · rw [getD_set_eq' _ (by omega)]; exact hw.eff hE
  · obtain ⟨wv, e, hw⟩ := hs i hi
    refine ⟨wv, ?_, ?_⟩
    · rw [getD_set_ne' _ hik, getD_set_ne' _ hik, e]
    · rw [getD_set_ne' _ hik]; exact hw.eff hE
/-- a call of plain returns the steps in a slice of the calls' own -/
def PlainQ (B : Nat) (l : List StepD) (W : World) (e : Ending) (W' : World) : Prop :=
  ∃ v', e = .returned v' ∧ StepsOwn W' B v' l ∧ EffE B 54 W W'
theorem StepsOwn.form {W : World} {B : Nat} {v : Value} {l : List StepD} (h : StepsOwn W B v l) : ∃ a c, v = .slice a l.length c := by
  obtain ⟨L, hOR, hLl, -⟩ := h
  rcases hOR.form with ⟨e, e2⟩ | ⟨g, c, cur, e, -⟩
  · exact ⟨none, 0, by rw [e, ← hLl, e2]; rfl⟩
  · exact ⟨_, c, by rw [e, hLl]⟩
set_option maxRecDepth 100000 in
set_option maxHeartbeats 16000000 in
theorem plain_step (rows : List RowD) (n : Nat) (hn : n ≤ 12) (hrs : ∀ r ∈ rows, r.coef.length = n ∧ coefsB r.coef = true) (rv : Value) (B : Nat) (w0 : World) (hr0 : RowsAt w0 rv rows) (h0B : w0.heap.size ≤ B)
    (f d s : Nat) (l : List StepD) (v : Value) (W : World) (hdn : d ≤ n) (hs : s < 2 ^ d) (hlen : l.length + 2 ^ (f + 1) ≤ 10000) (h0W : Below w0.heap.size w0 W) (hS : StepsOwn W B v l) (hBW : B ≤ W.heap.size)
    (ih : rows.any (badB d s) = false → ∃ f', f = f' + 1 ∧ d + 1 ≤ n ∧ ∀ (s : Nat) (l : List StepD) (v : Value) (W : World), s < 2 ^ (d + 1) → l.length + 2 ^ (f' + 1) ≤ 10000 → Below w0.heap.size w0 W → StepsOwn W B v l → B ≤ W.heap.size →
      Calls Try.prog 36 #[v, rv, .int .i64 ((d : Int) + 1), .int .i64 s] W (PlainQ B (l ++ growF rows f' (d + 1) s l.length) W)) :
    Calls Try.prog 36 #[v, rv, .int .i64 d, .int .i64 s] W (PlainQ B (l ++ growF rows f d s l.length) W) := by
  obtain ⟨av, cv, rfl⟩ := hS.form
  obtain ⟨ra, rc, rfl, hrl, hrm, hrc⟩ := id hr0
  have hm1 : (rows.length : Int) ≤ 9223372036854775807 := by omega
  have hp0 : 1 ≤ 2 ^ (f + 1) := Nat.one_le_two_pow
  have hlen3 : l.length < 10000 := by omega
  have HLEN := hide hlen
  have HR := hide hrs
  have HRC := hide hrc
  have HIH := hide ih
  have HSS := hide hs
  clear hrc hrs ih hlen hp0 hs
  go_enter Try.func36, Try.ntmps36
  go_wp2_with fail
  go_loopw [9] (fun i wr => ∃ k : Nat, k ≤ rows.length ∧ i = .int .i64 k ∧ Hid ((rows.take k).any (badB d s) = false) ∧ Below W.heap.size W wr) (fun i _ => rows.length - (intOf i).toNat)
  case atStart => exact ⟨0, by omega, rfl, hide rfl, Below.refl _ _⟩
  case round =>
    obtain ⟨k, hk, rfl, HA, hbr⟩ := hrel
    have hbx := below2 h0W hbr
    by_cases hlt : k < rows.length
    · obtain ⟨b, o, cv', rfl, hck⟩ := HRC.out k hlt
      have hm := getD_mem rows k (d := row0) hlt
      have hq13 : (rows.getD k row0).coef.length ≤ 13 := by have := HR.out _ hm; omega
      have hqd : d ≤ (rows.getD k row0).coef.length := by have := HR.out _ hm; omega
      have hqc := (HR.out _ hm).2
      have HT := hide (fun h => any_take_succ (d := row0) (p := badB d s) hlt HA.out h)
      have HFD := hide (fun h => idxF_found (badB d s) (d := row0) rows k hlt HA.out h)
      have HAN : Hid (badB d s (rows.getD k row0) = true → rows.any (badB d s) = true) := hide fun h => List.any_eq_true.2 ⟨_, hm, h⟩
      generalize rows.getD k row0 = x at hck hm HT HFD HAN hq13 hqd hqc
      obtain ⟨e0, e1, e2, e3, e4, e5, e6⟩ := hck.below hbx
      obtain ⟨ca, cc, rfl, -, -, -⟩ := id e6
      clear hck
      have q0 := bwc e0
      have q1 := bwc e1
      have q2 := bwc e2
      have q3 := bwc e3
      have q4 := bwc e4
      have q5 := bwc e5
      have HCALL := hide (fun (i : Bw wr.heap.size wr) => leastr_any x _ d s i.W (IntsIn.keeps (keeps_of_below i.h) e6) hq13 hqc hqd)
      have hkl : decide (k < rows.length) = true := by simpa using hlt
      by_cases hgt : x.most < leastF x.coef d s
      · have hx' : badB d s x = true := by unfold badB; exact decide_eq_true hgt
        have HX := hide hx'
        clear hx'
        go_wp2_with fail
        refine wp_region_bw (by kernel_rfl) (by kernel_rfl) ?_
        repeat (go_big_quiet_step (with_reducible exact quiet (HCALL.out _)))
        refine wpQuiet_nil ?_
        rintro _ ⟨i, rfl⟩
        have hb4 := below2 hbr i.h
        generalize i.W = WI at *
        have hb5 := below2 hb4 (bal WI (.cells #[.int .i64 k, .int .i64 1] 56))
        obtain ⟨L, hOR, hLl, hLs⟩ := hS.later hb5
        have hLl2 : L.length < 10000 := by omega
        have hB4 : B ≤ WI.heap.size + 1 := by have := hb4.size; omega
        have hWt : OwnW (WI.alloc (.cells #[.int .i64 k, .int .i64 1] 56)) B (.slice (some ⟨WI.heap.size, 0, none⟩) 1 1) (leafF k).wts := .inr ⟨_, _, Blk.new WI _ _, by have := hb4.size; omega, rfl, rfl⟩
        have HLl := hide hLl
        have HLs := hide hLs
        clear hLl hLs q0 q1 q2 q3 q4 q5
        rw [← HLl.out]
        go_wp2_with (at_builtin; refine app_rec infoStep rfl (by decide) Try.underlying30 rfl _ _ rfl B _ L (by rw [HLl.out]; rfl) hOR [.int .i64 (-1), .int .i64 0, .int .i64 0, .slice (some ⟨WI.heap.size, 0, none⟩) 1 1] rfl cells4 _ rfl (by simp) (by omega) (by omega) (by simp; omega) ?_; intro g c W5 hO5 hE5 hz5)
        go_ret
        refine ⟨_, rfl, ?_, (EffE.of_below hb5).trans hE5⟩
        rw [growF_leaf (HAN.out HX.out), HFD.out HX.out]
        have := StepsOwn.app HLl.out HLs.out hWt (st := leafF k) hO5 hE5
        rw [List.length_append] at this
        exact this
      · have hx' : badB d s x = false := by unfold badB; exact decide_eq_false hgt
        have HX := hide hx'
        clear hx'
        go_wp2_with fail
        refine wp_region_bw (by kernel_rfl) (by kernel_rfl) ?_
        repeat (go_big_quiet_step (with_reducible exact quiet (HCALL.out _)))
        refine wpQuiet_nil ?_
        rintro _ ⟨i, rfl⟩
        go_wp2_with fail
        go_roundw
        case rel => exact ⟨k + 1, by omega, by go_num, HT.out HX.out, bwb i hbr hbr.size⟩
        case measure => simp [intOf]; omega
    · obtain rfl : k = rows.length := by omega
      have hnb := any_take_end (p := badB d s) (Nat.le_refl rows.length) HA.out
      obtain ⟨f', hf', hdn', hih⟩ := HIH.out hnb
      have HLEN2 : Hid (l.length + 2 ^ (f' + 1 + 1) ≤ 10000) := hide (by have := HLEN.out; rw [hf'] at this; exact this)
      have hp1 : 2 ^ (f' + 1 + 1) = 2 ^ (f' + 1) + 2 ^ (f' + 1) := by rw [Nat.pow_succ]; omega
      have hp2 : 1 ≤ 2 ^ (f' + 1) := Nat.one_le_two_pow
      have HP1 : Hid (l.length + 1 + 2 ^ (f' + 1) ≤ 10000) := hide (by have := HLEN2.out; omega)
      obtain ⟨T, hT, hT1, hT2, hTc, hTi, -⟩ := pow_U (n := d) (by omega)
      have hsT : s < T := by rw [hT]; exact HSS.out
      have HT := hide hT
      have HNB := hide hnb
      have HC := hide hih
      have HFF := hide hf'
      clear hnb hih hp1 hp2 HIH hT hf'
      obtain ⟨L, hOR, hLl, hLs⟩ := hS.later hbr
      have hLl2 : L.length < 10000 := by omega
      have hB4 : B ≤ wr.heap.size := by have := hbr.size; omega
      have hWt : OwnW wr B (.slice none 0 0) (nodeF d (L.length + 1) 0).wts := .inl ⟨rfl, rfl⟩
      have HLl := hide hLl
      have HLs := hide hLs
      clear hLl hLs
      rw [← HLl.out]
      go_wp2_with (at_builtin; refine app_rec infoStep rfl (by decide) Try.underlying30 rfl _ _ rfl B _ L (by rw [HLl.out]; rfl) hOR [.int .i64 d, .int .i64 (L.length + 1), .int .i64 0, .slice none 0 0] rfl cells4 _ rfl rfl (by omega) (by omega) (by omega) ?_; intro g c W5 hO5 hE5 hz5)
      have E5 : EffE B 54 W W5 := (EffE.of_below hbr).trans hE5
      have S5 : StepsOwn W5 B (.slice (some ⟨g, 0, none⟩) (L.length + 1) c) (l ++ [nodeF d (L.length + 1) 0]) := by
        have := StepsOwn.app HLl.out HLs.out hWt (st := nodeF d (L.length + 1) 0) hO5 hE5
        rw [List.length_append] at this
        exact this
      have X5 : Below w0.heap.size w0 W5 := h0W.trans ((E5.below hBW).mono h0B)
      have hB5 : B ≤ W5.heap.size := by have := E5.size; omega
      have hpd : 2 ^ (d + 1) = 2 ^ d + 2 ^ d := by rw [Nat.pow_succ]; omega
      have HPD := hide hpd
      have C1 := hide (HC.out s (l ++ [nodeF d (L.length + 1) 0]) _ W5 (by rw [HPD.out, ← HT.out]; exact Nat.lt_of_lt_of_le hsT (Nat.le_add_right T T)) (by rw [List.length_append]; exact HP1.out) X5 S5 hB5)
      clear hpd
      refine C1.out.mono ?_
      rintro e W7 ⟨v7, rfl, hS7, hE7⟩
      have hl1 : (l ++ [nodeF d (L.length + 1) 0]).length = l.length + 1 := by simp
      rw [hl1] at hS7
      have gA := (growF_len rows f' (d + 1) s (l.length + 1)).2
      generalize hA : growF rows f' (d + 1) s (l.length + 1) = A at hS7 gA
      have HA' := hide hA
      have HGA := hide gA
      clear hA gA hl1
      obtain ⟨L7, hOR7, hLl7, hLs7⟩ := hS7
      have HL7 : Hid (L7.length = l.length + 1 + A.length) := hide (by rw [hLl7]; simp; omega)
      obtain ⟨g7, c7, rfl⟩ : ∃ g7 c7, v7 = .slice (some ⟨g7, 0, none⟩) L7.length c7 := by
        rcases hOR7.form with ⟨-, e2⟩ | ⟨g, c, cur, e, -⟩
        · rw [e2] at hLl7; simp at hLl7
        · exact ⟨_, _, e⟩
      have hlm : l.length < (l ++ [nodeF d (L.length + 1) 0] ++ A).length := by simp
      have hst : (l ++ [nodeF d (L.length + 1) 0] ++ A).getD l.length st0 = nodeF d (L.length + 1) 0 := by
        rw [List.append_assoc, getD_app_right _ _ _ _ (Nat.le_refl _)]; simp
      have hll : L.length < L7.length := by rw [HL7.out, HLl.out]; omega
      have m2 := hOR7.cell L.length 2 hll (by omega) (u := .int .i64 0) (by
        obtain ⟨wv, hk7, -⟩ := hLs7 l.length hlm
        rw [HLl.out, hk7, hst]; rfl)
      have m4 := hOR7.frozen (L.length * 4 + 2)
      have P8 := StepsOwn.yes hOR7 hLl7 hLs7 l.length hlm (L7.length : Nat)
      have E8 := EffE.setRow hOR7 (j := L.length * 4 + 2) (.int .i64 ((L7.length : Nat) : Int))
      rw [hst, ← HLl.out] at P8
      have hL7b : (L7.length : Int) ≤ 9223372036854775807 := by
        have := HL7.out; have := HGA.out; have := HP1.out; omega
      have e1 : IntKind.i64.wrap ((s : Int) + (T : Int)) = (s : Int) + T := IntWalk.i64_in _ (by omega)
      clear hLl7 hLs7 hst hlm
      go_wp2_with fail
      have hln : (((l ++ [nodeF d (L.length + 1) 0] ++ A).set L.length ⟨(nodeF d (L.length + 1) 0).var, (nodeF d (L.length + 1) 0).no, ((L7.length : Nat) : Int), (nodeF d (L.length + 1) 0).wts⟩)).length = l.length + 1 + A.length := by
        rw [List.length_set]; simp; omega
      have hcast : ((s : Int) + (T : Int)) = ((s + 2 ^ d : Nat) : Int) := by rw [← HT.out]; omega
      have hW7 : B ≤ W7.heap.size := by have := hE7.size; omega
      have hX8 : Below w0.heap.size w0 (W7.setCell ⟨g7, L.length * 4 + 2, none⟩ (.int .i64 ((L7.length : Nat) : Int))) := X5.trans (((hE7.trans E8).below hB5).mono h0B)
      have hlast : s + 2 ^ d < 2 ^ (d + 1) := by rw [HPD.out]; have := HSS.out; exact Nat.add_lt_add_right this _
      have hlen9 : l.length + 1 + A.length + 2 ^ (f' + 1) ≤ 10000 := by
        have h1 := HLEN2.out
        have h2 := HGA.out
        have h3 : 2 ^ (f' + 1 + 1) = 2 ^ (f' + 1) + 2 ^ (f' + 1) := by rw [Nat.pow_succ]; omega
        omega
      have C2 := hide (HC.out (s + 2 ^ d) _ _ _ hlast (by rw [hln]; exact hlen9) hX8 P8 (by simpa [World.setCell] using hW7))
      have HCA := hide hcast
      have HLN := hide hln
      have HL9 := hide hlen9
      clear hcast hln hlen9 hlast
      rw [HCA.out]
      refine C2.out.mono ?_
      rintro e W9 ⟨v9, rfl, hS9, hE9⟩
      rw [HLN.out] at hS9
      obtain ⟨a9, c9, e9⟩ := hS9.form
      generalize List.length _ = m9 at e9
      subst e9
      go_wp2_with fail
      go_ret
      refine ⟨_, rfl, ?_, ((E5.trans hE7).trans E8).trans hE9⟩
      have eset : (l ++ [nodeF d (L.length + 1) 0] ++ A).set L.length ⟨(nodeF d (L.length + 1) 0).var, (nodeF d (L.length + 1) 0).no, ((L7.length : Nat) : Int), (nodeF d (L.length + 1) 0).wts⟩ ++ growF rows f' (d + 1) (s + 2 ^ d) (l.length + 1 + A.length) = l ++ growF rows f d s l.length := by
        rw [HFF.out, growF_node HNB.out, HA'.out, HL7.out, HLl.out, List.append_assoc, List.set_append_right _ _ (Nat.le_refl _)]
        simp [nodeF]
      rw [← eset]
      exact hS9
set_option maxRecDepth 100000 in
theorem plain_any (rows : List RowD) (n : Nat) (hn : n ≤ 12) (hrs : ∀ r ∈ rows, r.coef.length = n ∧ coefsB r.coef = true) (href : ∀ s, s < 2 ^ n → rows.any (badB n s) = true) (rv : Value) (B : Nat) (w0 : World) (hr0 : RowsAt w0 rv rows) (h0B : w0.heap.size ≤ B) :
    ∀ (f d s : Nat) (l : List StepD) (v : Value) (W : World), d + f = n → s < 2 ^ d → l.length + 2 ^ (f + 1) ≤ 10000 → Below w0.heap.size w0 W → StepsOwn W B v l → B ≤ W.heap.size →
      Calls Try.prog 36 #[v, rv, .int .i64 d, .int .i64 s] W (PlainQ B (l ++ growF rows f d s l.length) W)
  | 0, d, s, l, v, W, hdf, hs, hlen, h0W, hS, hBW => by
    obtain rfl : d = n := by omega
    exact plain_step rows d hn hrs rv B w0 hr0 h0B 0 d s l v W (Nat.le_refl _) hs hlen h0W hS hBW (fun h => by rw [href s hs] at h; cases h)
  | f + 1, d, s, l, v, W, hdf, hs, hlen, h0W, hS, hBW =>
    plain_step rows n hn hrs rv B w0 hr0 h0B (f + 1) d s l v W (by omega) hs hlen h0W hS hBW (fun _ => ⟨f, rfl, by omega, fun s l v W h1 h2 h3 h4 h5 => by
      have := plain_any rows n hn hrs href rv B w0 hr0 h0B f (d + 1) s l v W (by omega) h1 h2 h3 h4 h5
      rwa [show ((d + 1 : Nat) : Int) = (d : Int) + 1 from by omega] at this⟩)
end Go.Proofs.Ytppfdjjhloaopaa
namespace Go.Proofs.Ytppfdjjhloaopaa
open Go.RowKit

theorem app_recs {w : World} {ops : Array Oper} {rest : List Oper} {o : Oper} {a : Act} {Q : Exit → Act → World → Prop} {e t : TypeId} {k by_ : Nat} {z : Value}
    (hinfo : (Try.prog.info? e).map (fun i => (i.zero, i.size, i.bytes)) = some (some z, k, by_)) (hzk : z.cells.size = k) (hk : 0 < k) (hu : Try.prog.underlying t = some (.slice e)) (hgd : o.guard = none) (s x : Operand)
    (ho : o.op = .call { callee := .builtin .append, args := #[s, x], argTypes := #[t, t] }) (B : Nat) (v : Value) (L : List (List Value)) (hs : a.eval s = v) (hown : OwnR w B e k v L)
    (xa : Option Addr) (m c : Nat) (Lx : List (List Value)) (hm : m = Lx.length) (hx : a.eval x = .slice xa m c) (h6 : ∀ r ∈ Lx, r.length = k) (hone : ∀ u ∈ Lx.flatten, u.oneCell' = true)
    (hcells : ∀ b, xa = some b → ∀ j u, Lx.flatten[j]? = some u → w.cell? (b.add j) = some u) (hnone : xa = none → Lx = []) (hlen : (L.length + Lx.length) * by_ ≤ 140737488355328) (hlen2 : L.length + Lx.length < 1000000) (hB : B ≤ w.heap.size)
    (h : ∀ v' w', OwnR w' B e k v' (L ++ Lx) → w.grownBy w' v.ownBlock → wpList Try.prog ops Q rest (a.put o.dst v') w') :
    wpList Try.prog ops Q (o :: rest) a w := by
  subst hm
  obtain ⟨i0, hi, hz0, hz1, hz2⟩ := info_parts hinfo
  refine wpList_plain hgd fun K hK => ?_
  unfold Oper.wp execOp
  cases xa with
  | none =>
    obtain rfl := hnone rfl
    have hrun := run_app_nil B t o.type e i0 k hu hi v L.length L.flatten hown.1 c
    have hx' : a.eval x = .slice none 0 c := hx
    simp only [ho, resolve, invoke, builtin, Sem.run_bind, Sem.run_pure, Result.andThen_ok, List.map_toArray, List.map_cons, List.map_nil, hs, hx', hrun]
    exact hK _ _ (h v w (by simpa using hown) (World.grownBy.refl w _))
  | some ad =>
    obtain ⟨v', w', hrun, h2, h3, -, h5⟩ := run_append_own_at (P := Try.prog) w B t o.type e i0 z k by_ hu hi hz0 hz1 hz2 hzk hk v L.length L.flatten hown.1
      ad Lx.length c Lx.flatten (flat_len h6) (hcells ad rfl) hone (by unfold maxLen; omega) hlen hB
    simp only [ho, resolve, invoke, builtin, Sem.run_bind, Sem.run_pure, Result.andThen_ok, List.map_toArray, List.map_cons, List.map_nil, hs, hx, hrun]
    refine hK _ _ (h v' w' ⟨by simpa using h2, fun q hq => ?_⟩ h3)
    rcases List.mem_append.1 hq with h2 | h2
    · exact hown.2 q h2
    · exact h6 q h2
theorem allF_good {p : ProgD} (h : validB p = true) : allF p = (goodF p).map fun (s : Nat) => (s : Int) := by unfold allF; rw [if_pos h]
theorem good_le {p : ProgD} (h : validB p = true) : (goodF p).length ≤ 4096 := by
  obtain ⟨v0, v12, -⟩ := valid_parts h
  have h1 := goodUp_le p.rows (2 ^ p.vars.toNat)
  have h2 : 2 ^ p.vars.toNat ≤ 2 ^ 12 := Nat.pow_le_pow_right (by omega) (by omega)
  unfold goodF; omega
theorem mapN_getD (l : List Nat) (j : Nat) : (l.map fun (s : Nat) => (s : Int)).getD j 0 = ((l.getD j 0 : Nat) : Int) := by
  rw [List.getD_eq_getElem?_getD, List.getD_eq_getElem?_getD, List.getElem?_map]
  cases l[j]? <;> simp
theorem rowsF_ok {p : ProgD} (hV : validB p = true) : ∀ r ∈ rowsF p, r.coef.length = p.vars.toNat ∧ coefsB r.coef = true := by
  obtain ⟨v0, -, -, hrs, hgl, hgc⟩ := valid_parts hV
  have key : ∀ r ∈ p.rows, r.coef.length = p.vars.toNat ∧ coefsB r.coef = true := fun r h => ⟨by have := hrs r h; omega, (hrs r h).2.1⟩
  intro r hr
  unfold rowsF at hr
  split at hr
  · rcases List.mem_append.1 hr with h | h
    · exact key r h
    · simp at h; subst h; exact ⟨by simp [goalF]; omega, coefsB_neg hgc⟩
  · exact key r hr
theorem best_step (g : List Int) (x : Nat) (b : BestD) : downStep g x b = if b.found && decide (chosenF g x < b.gain) then b else ⟨true, x, chosenF g x⟩ := rfl
theorem keeps_frm_set {B b : Nat} (w : World) (h : b < B) (j : Nat) (u : Value) : Keeps (frm B w) (frm B (w.setCell ⟨b, j, none⟩ u)) :=
  keeps_frm_later fun k hk _ => Below.heap_setCell w ⟨b, j, none⟩ u k (by show k ≠ b; omega)
set_option maxRecDepth 100000 in
set_option maxHeartbeats 4000000 in
theorem solver_any (p : ProgD) (rv gv : Value) (w : World) (hr : RowsAt w rv p.rows) (hg : IntsAt w gv p.gain) :
    Calls Try.prog 11 #[progV p rv gv] w (RetM2 (fun c v u => SolIn c v (solveF p) ∧ u = .int .i64 (errF p)) w) := by
  have HE : Hid (errF p = if validB p then 0 else 330) := hide rfl
  have HAL := hide (fun (W : World) (h : Below w.heap.size w W) => allr_any p rv gv W (hr.below h) (hg.below h))
  have HR0 := hr
  have HG0 := hg
  obtain ⟨ra, rc, rfl, hrl, hrm, -⟩ := id hr
  obtain ⟨ga, gc, rfl, -, hgm, -⟩ := id hg
  clear hr hg
  go_enter Try.func11, Try.ntmps11
  go_wp2_with fail
  generalize hX1 : World.alloc w _ = X1
  have zX1 : X1.heap.size = w.heap.size + 1 := by rw [← hX1]; simp
  have bX1 : Below w.heap.size w X1 := by rw [← hX1]; exact bal w _
  have bP_1 : Blk X1 (w.heap.size) [.int .i64 p.vars, .slice ra p.rows.length rc, .slice ga p.gain.length gc] 27 := by rw [← hX1]; exact Blk.newA w _ (by first | rfl | simp)
  generalize hX2 : World.alloc X1 _ = X2
  have zX2 : X2.heap.size = w.heap.size + 1 + 1 := by rw [← hX2]; simp [zX1]
  have bX2 : Below X1.heap.size X1 X2 := by rw [← hX2]; exact bal X1 _
  have bR : Blk X2 (w.heap.size + 1) [.bool false, .int .i64 0, .int .i64 0, .slice none 0 0] 34 := by rw [← hX2, ← zX1]; exact Blk.newA X1 _ (by first | rfl | simp)
  have bP := bP_1.later bX2
  have Xb := below2 (bX1) bX2
  have Xz := zX2
  clear hX1 zX1 bX1 hX2 zX2 bX2 bP_1
  refine (HAL.out _ Xb).mono ?_
  rintro e W1 ⟨lv, u, rfl, ⟨hl, rfl⟩, hb1⟩
  have hl1 : IntsAt W1 lv (allF p) := hl.keeps (keeps_frm _ _)
  have hbw1 := below2 Xb hb1
  have bP1 := bP.later hb1
  have bR1 := bR.later hb1
  clear hl bP bR
  cases hV : validB p
  · have e1 : errF p = 330 := by rw [HE.out, hV]; rfl
    rw [e1]
    obtain ⟨la, lc, rfl, -, -, -⟩ := hl1
    generalize (allF p).length = ml
    have t0 := (bR1).cell 0 rfl
    have t1 := (bR1).cell 1 rfl
    have t2 := (bR1).cell 2 rfl
    have t3 := (bR1).cell 3 rfl
    have f0 := (bR1).frozen 0
    have f1 := (bR1).frozen 1
    have f2 := (bR1).frozen 2
    have f3 := (bR1).frozen 3
    go_wp2_with fail
    obtain ⟨z1, z2, -⟩ := set4 bR1 (.bool false) (.int .i64 0) (.int .i64 0) (.slice none 0 0)
    have z3 := z2 _ _ hbw1 (by omega)
    generalize World.setCell (World.setCell _ _ _) ⟨w.heap.size + 1, 3, none⟩ _ = Wf at z1 z3 ⊢
    have y0 := z1.cell 0 rfl
    have y1 := z1.cell 1 rfl
    have y2 := z1.cell 2 rfl
    have y3 := z1.cell 3 rfl
    have HV : solveF p = ⟨false, 0, 0, []⟩ := by unfold solveF; rw [if_neg (by rw [hV]; simp)]
    refine bodyPost_ret (v := .tuple #[.agg #[.bool false, .int .i64 0, .int .i64 0, .slice none 0 0], .int .i64 330]) (by simp [results, Try.results11, go_sem, y0, y1, y2, y3]) rfl ?_
    exact ⟨_, _, rfl, ⟨⟨_, by rw [HV], by rw [HV]; exact StepsIn.nil _⟩, by rw [e1]⟩, z3⟩
  · have e1 : errF p = 0 := by rw [HE.out, hV]; rfl
    rw [e1]
    obtain ⟨v0, v12, -, hrs, hgl, hgc⟩ := valid_parts hV
    have HSV : Hid (solveF p = ⟨(bestF p).found, (bestF p).set, (bestF p).gain, growF (rowsF p) p.vars.toNat 0 0 0⟩) := hide (by unfold solveF; rw [if_pos hV])
    have HBD := hide (best_bd hV)
    have HREF := hide (refuted p hV)
    have HOK : Hid (∀ r ∈ rowsF p, r.coef.length = p.vars.toNat ∧ coefsB r.coef = true) := hide (rowsF_ok hV)
    have HGL : Hid (p.gain.length ≤ 13) := by show _ ≤ _; omega
    have HGC := hide hgc
    have HRL : Hid (p.rows.length ≤ 300) := hide (valid_parts hV).2.2.1
    have HN12 : Hid (p.vars.toNat ≤ 12) := by show _ ≤ _; omega
    have HRN := hide (rowsF_none (p := p))
    have HRY := hide (rowsF_found (p := p))
    have HBE : Hid (bestDown p.gain (goodF p) = bestF p) := hide (bestDown_eq _ _)
    have hml := good_le hV
    rw [allF_good hV] at hl1
    have HE1 := hide e1
    clear hrs hgl hgc e1
    generalize hGL : goodF p = GL at hl1 hml HBE
    obtain ⟨la, lc, rfl, hll1, hll2, hlc⟩ := hl1
    have hll : (GL.map fun (s : Nat) => (s : Int)).length = GL.length := by simp
    rw [hll] at hll1 hlc ⊢
    have HLC := hide hlc
    clear hlc hll hGL
    have q2 := bP1.cell 2 rfl
    go_wp2_with fail
    generalize hW2 : World.alloc W1 _ = W2
    have hb2 : Below W1.heap.size W1 W2 := by rw [← hW2]; exact bal W1 _
    have bS : Blk W2 W1.heap.size (solCells best0) 34 := by rw [← hW2]; exact Blk.newA W1 _ rfl
    have hz2 : W1.heap.size < W2.heap.size := bS.lt
    clear hW2 q2
    go_loopw [7] (fun i wr => ∃ k : Nat, k ≤ GL.length ∧ i = .int .i64 ((k : Int) - 1) ∧ Blk wr W1.heap.size (solCells (bestDown p.gain (GL.drop k))) 34 ∧ Below W1.heap.size W1 wr ∧ W2.heap.size ≤ wr.heap.size) (fun i _ => (intOf i + 1).toNat)
    case atStart => exact ⟨GL.length, Nat.le_refl _, by go_num, by rw [List.drop_length]; exact bS, hb2, Nat.le_refl _⟩
    case round =>
      obtain ⟨k, hk, rfl, hS, hbr, hz⟩ := hrel
      rcases k with _ | j
      · rw [List.drop_zero, HBE.out] at hS
        generalize bestF p = BB at hS HSV HBD HRN HRY
        obtain ⟨bf, bs, bg⟩ := BB
        have hbwr := below2 hbw1 hbr
        have hrr := HR0.below hbwr
        obtain ⟨Lr, hLl, hL6, hLone, hLs, -, hLt⟩ := rows_from (RowsAt.to hrr)
        have hLt2 := hLt p.rows.length
        rw [List.take_of_length_le (Nat.le_of_eq hLl)] at hLt2
        have HLl := hide hLl
        have HLs := hide hLs
        have HLt := hide hLt2
        have HL6 := hide hL6
        have HLone := hide hLone
        have hLr : Lr.length ≤ 300 := by rw [hLl]; exact HRL.out
        have hRlt := bR1.lt
        have hRne : w.heap.size + 1 ≠ W1.heap.size := Nat.ne_of_lt hRlt
        have p1 := (bP1.later hbr).cell 1 rfl
        have lP := (bP1.later hbr).lt
        clear hLl hL6 hLone hLs hLt hLt2 HBE HLC hml
        go_wp2_with (at_builtin; refine app_recs infoRow rfl (by decide) Try.underlying24 rfl _ _ rfl wr.heap.size _ [] rfl (lit_recs wr _ 6 (Nat.le_refl _)) _ _ _ Lr HLl.out.symm rfl HL6.out HLone.out (fun b hb j u hj => keep (bal wr _) (HLt.out.1 b hb j u hj)) HLt.out.2 (by simp only [List.length_nil]; omega) (by simp only [List.length_nil]; omega) (by simp) ?_; intro v3 W3 hO3 hg3; rw [List.nil_append] at hO3; have hb3 : Below wr.heap.size wr W3 := (bal wr _).trans (below_own (lit_recs wr _ 6 (Nat.le_refl _)) (by simp) hg3); obtain ⟨a3, c3, rfl⟩ := own_form hO3 HLl.out; have bS3 := hS.later hb3; have s0 := bS3.cell 0 rfl; have s2 := bS3.cell 2 rfl; have bP3 := (bP1.later hbr).later hb3; have p30 := bP3.cell 0 rfl; have p31 := bP3.cell 1 rfl; have p32 := bP3.cell 2 rfl; cases bf)
        all_goals have hbw3 := below2 hbwr hb3
        all_goals have bR3 := (bR1.later hbr).later hb3
        all_goals have hlt3 := bS3.lt
        · have rr3 : RowsAt W3 (.slice a3 p.rows.length c3) p.rows := OwnR.rows hO3 HLl.out (fun i hi => let ⟨cv, e, hc⟩ := HLs.out i hi; ⟨cv, e, IntsAt.below hb3 hc⟩)
          have hbw4 := hbw3
          have bR4 := bR3
          clear p1 lP p30 p31 p32
          have hREF' := HREF.out
          have hOK' := HOK.out
          rw [HRN.out (by first | trivial | rfl)] at hREF' hOK'
          have C0 := plain_any (p.rows) p.vars.toNat HN12.out hOK' hREF' _ W3.heap.size W3 rr3 (Nat.le_refl _) p.vars.toNat 0 0 [] (.slice none 0 0) W3 (by omega) (by simp) (by
            have : 2 ^ (p.vars.toNat + 1) ≤ 2 ^ 13 := Nat.pow_le_pow_right (by omega) (by have := HN12.out; omega)
            simp; omega) (Below.refl _ _) ⟨[], OwnR.nil _ _ _ _, rfl, fun i hi => by simp at hi⟩ (Nat.le_refl _)
          rw [show ((0 : Nat) : Int) = 0 from rfl, List.nil_append] at C0
          have HC0 := hide C0
          clear C0 hREF' hOK'
          refine HC0.out.mono ?_
          rintro e W5 ⟨v5, rfl, hS5, hE5⟩
          obtain ⟨a5, c5, e5⟩ := hS5.form
          generalize List.length _ = m5 at e5
          subst e5
          have hb5 := hE5.below (Nat.le_refl _)
          have bS5 := bS3.later hb5
          have bR5 := bR4.later hb5
          have hbw5 := below2 hbw4 hb5
          clear s0 s2
          have s0 := bS5.cell 0 rfl
          have s1 := bS5.cell 1 rfl
          have s2 := bS5.cell 2 rfl
          have s3 := bS5.cell 3 rfl
          have y3 := bS5.frozen 3
          have t0 := (bR5).cell 0 rfl
          have t1 := (bR5).cell 1 rfl
          have t2 := (bR5).cell 2 rfl
          have t3 := (bR5).cell 3 rfl
          have f0 := (bR5).frozen 0
          have f1 := (bR5).frozen 1
          have f2 := (bR5).frozen 2
          have f3 := (bR5).frozen 3
          go_wp2_with fail
          have bR6 := bR5.other hRne 3 (.slice a5 m5 c5)
          obtain ⟨x1, x2, -⟩ := set4 bR6 (.bool false) (.int .i64 bs) (.int .i64 bg) (.slice a5 m5 c5)
          have x3 := x2 _ _ (hbw5.setCell (p := ⟨W1.heap.size, 3, none⟩) (show w.heap.size ≤ W1.heap.size by omega) (.slice a5 m5 c5)) (by omega)
          have hK := (((((hS5.at.keeps (keeps_frm_set W5 (b := W1.heap.size) (by omega) 3 (.slice a5 m5 c5))).keeps (keeps_frm_set _ (b := w.heap.size + 1) (by omega) 0 (.bool false))).keeps (keeps_frm_set _ (b := w.heap.size + 1) (by omega) 1 (.int .i64 bs))).keeps (keeps_frm_set _ (b := w.heap.size + 1) (by omega) 2 (.int .i64 bg))).keeps (keeps_frm_set _ (b := w.heap.size + 1) (by omega) 3 (.slice a5 m5 c5)))
          generalize World.setCell (World.setCell _ _ _) ⟨w.heap.size + 1, 3, none⟩ _ = Wf at x1 x3 hK ⊢
          have w0 := x1.cell 0 rfl
          have w1 := x1.cell 1 rfl
          have w2 := x1.cell 2 rfl
          have w3 := x1.cell 3 rfl
          refine bodyPost_ret (v := .tuple #[.agg #[.bool false, .int .i64 bs, .int .i64 bg, .slice a5 m5 c5], .int .i64 0]) (by simp [results, Try.results11, go_sem, w0, w1, w2, w3]) rfl ?_
          exact ⟨_, _, rfl, ⟨⟨_, by rw [HSV.out], by rw [HSV.out, HRN.out (by first | trivial | rfl)]; exact hK.keeps (keeps_frm_le _ (by omega))⟩, by rw [HE1.out]⟩, x3⟩
        · have hbd := HBD.out
          have hbd1 : -12000000000 ≤ bg := hbd.1
          have hbd2 : bg ≤ 12000000000 := hbd.2
          have hwr1 : W1.heap.size < wr.heap.size := by omega
          have C := goalr_any p.vars.toNat p.gain (.slice ra p.rows.length rc) _ bg W3 (HG0.below hbw3) HGL.out HGC.out (by omega) (by omega)
          rw [Int.toNat_of_nonneg v0] at C
          have HC := hide C
          clear C hbd p30 p31 p32 p1 lP
          refine HC.out.mono ?_
          rintro e W4 ⟨b7, hb7, rfl, hB7, hbb⟩
          have hO4 := hO3.later' (below2 hbb (bal W4 (.cells (rowCells (goalF p.gain bg) (.slice (some ⟨b7, 0, none⟩) p.gain.length p.gain.length)).toArray 67)))
          have hz34 := hb3.size
          have hz4 := hbb.size
          go_wp2_with (at_builtin; refine app_recs infoRow rfl (by decide) Try.underlying24 rfl _ _ rfl wr.heap.size _ Lr rfl hO4 (some ⟨W4.heap.size, 0, none⟩) 1 1 [rowCells (goalF p.gain bg) (.slice (some ⟨b7, 0, none⟩) p.gain.length p.gain.length)] rfl rfl (fun r hr => by simp at hr; rw [hr]; rfl) (fun u hu => by simp only [List.flatten_cons, List.flatten_nil, List.append_nil] at hu; exact rowCells_one u hu) (news2 (Blk.newA W4 _ rfl)) (fun h => by cases h) (by simp only [List.length_singleton]; omega) (by simp only [List.length_singleton]; omega) (by simp; omega) ?_; intro v5 WG hO5 hg5; obtain ⟨a6, c6, rfl⟩ := own_form hO5 (n := p.rows.length + 1) (by rw [List.length_append, HLl.out]; rfl))
          have hbX := below_own hO4 (by simp; omega) hg5
          have h4 := below2 hbb (bal W4 (.cells (rowCells (goalF p.gain bg) (.slice (some ⟨b7, 0, none⟩) p.gain.length p.gain.length)).toArray 67))
          have rrG := goal_rows HLl.out HGL.out HLs.out (hb3.trans (h4.mono hb3.size)) hO4 (hB7.later (bal W4 _)) hO5 hg5
          have bSG := (bS3.later h4).below hbX hwr1
          have bR4 := (bR3.later h4).below hbX (by omega)
          have hbw4 := hbwr.trans (((hb3.trans (h4.mono hb3.size)).trans hbX).mono (by have := hbwr.size; omega))
          have hltG := bSG.lt
          clear hlt3 bS3 bR3 hO4 hO5 hO3 hg5 h4 hbX
          have hREF' := HREF.out
          have hOK' := HOK.out
          rw [HRY.out (by first | trivial | rfl)] at hREF' hOK'
          have C0 := plain_any (p.rows ++ [goalF p.gain bg]) p.vars.toNat HN12.out hOK' hREF' _ WG.heap.size WG rrG (Nat.le_refl _) p.vars.toNat 0 0 [] (.slice none 0 0) WG (by omega) (by simp) (by
            have : 2 ^ (p.vars.toNat + 1) ≤ 2 ^ 13 := Nat.pow_le_pow_right (by omega) (by have := HN12.out; omega)
            simp; omega) (Below.refl _ _) ⟨[], OwnR.nil _ _ _ _, rfl, fun i hi => by simp at hi⟩ (Nat.le_refl _)
          rw [show ((0 : Nat) : Int) = 0 from rfl, List.nil_append] at C0
          have HC0 := hide C0
          clear C0 hREF' hOK'
          refine HC0.out.mono ?_
          rintro e W5 ⟨v5, rfl, hS5, hE5⟩
          obtain ⟨a5, c5, e5⟩ := hS5.form
          generalize List.length _ = m5 at e5
          subst e5
          have hb5 := hE5.below (Nat.le_refl _)
          have bS5 := bSG.later hb5
          have bR5 := bR4.later hb5
          have hbw5 := below2 hbw4 hb5
          clear s0 s2
          have s0 := bS5.cell 0 rfl
          have s1 := bS5.cell 1 rfl
          have s2 := bS5.cell 2 rfl
          have s3 := bS5.cell 3 rfl
          have y3 := bS5.frozen 3
          have t0 := (bR5).cell 0 rfl
          have t1 := (bR5).cell 1 rfl
          have t2 := (bR5).cell 2 rfl
          have t3 := (bR5).cell 3 rfl
          have f0 := (bR5).frozen 0
          have f1 := (bR5).frozen 1
          have f2 := (bR5).frozen 2
          have f3 := (bR5).frozen 3
          go_wp2_with fail
          have bR6 := bR5.other hRne 3 (.slice a5 m5 c5)
          obtain ⟨x1, x2, -⟩ := set4 bR6 (.bool true) (.int .i64 bs) (.int .i64 bg) (.slice a5 m5 c5)
          have x3 := x2 _ _ (hbw5.setCell (p := ⟨W1.heap.size, 3, none⟩) (show w.heap.size ≤ W1.heap.size by omega) (.slice a5 m5 c5)) (by omega)
          have hK := (((((hS5.at.keeps (keeps_frm_set W5 (b := W1.heap.size) (by omega) 3 (.slice a5 m5 c5))).keeps (keeps_frm_set _ (b := w.heap.size + 1) (by omega) 0 (.bool true))).keeps (keeps_frm_set _ (b := w.heap.size + 1) (by omega) 1 (.int .i64 bs))).keeps (keeps_frm_set _ (b := w.heap.size + 1) (by omega) 2 (.int .i64 bg))).keeps (keeps_frm_set _ (b := w.heap.size + 1) (by omega) 3 (.slice a5 m5 c5)))
          generalize World.setCell (World.setCell _ _ _) ⟨w.heap.size + 1, 3, none⟩ _ = Wf at x1 x3 hK ⊢
          have w0 := x1.cell 0 rfl
          have w1 := x1.cell 1 rfl
          have w2 := x1.cell 2 rfl
          have w3 := x1.cell 3 rfl
          refine bodyPost_ret (v := .tuple #[.agg #[.bool true, .int .i64 bs, .int .i64 bg, .slice a5 m5 c5], .int .i64 0]) (by simp [results, Try.results11, go_sem, w0, w1, w2, w3]) rfl ?_
          exact ⟨_, _, rfl, ⟨⟨_, by rw [HSV.out], by rw [HSV.out, HRY.out (by first | trivial | rfl)]; exact hK.keeps (keeps_frm_le _ (by omega))⟩, by rw [HE1.out]⟩, x3⟩
      · rw [show (((j + 1 : Nat) : Int) - 1) = (j : Int) from by omega]
        obtain ⟨b, o, rfl, hck⟩ := HLC.out j (by omega)
        rw [mapN_getD] at hck
        have HDN := hide (bestDown_step (g := p.gain) (l := GL) (i := j) (by omega))
        have hjl : decide (j < GL.length) = true := by simp; omega
        have hjl2 : j < GL.length := by omega
        generalize GL.getD j 0 = x at hck HDN
        have hlb : b < W1.heap.size := lt_of_cell hck
        have hbne : b ≠ W1.heap.size := Nat.ne_of_lt hlb
        have hbne' : W1.heap.size ≠ b := Ne.symm hbne
        have ck := bwc (keep hbr hck)
        have p2 := bwc ((bP1.later hbr).cell 2 rfl)
        have hbwr := below2 hbw1 hbr
        have HCALL := hide (fun (i : Bw wr.heap.size wr) => total_any p.gain x _ i.W (HG0.below (below2 hbwr i.h)) HGL.out HGC.out)
        have HST := hide (best_step p.gain x (bestDown p.gain (GL.drop (j + 1))))
        generalize bestDown p.gain (GL.drop (j + 1)) = bb at hS HDN HST
        generalize chosenF p.gain x = cg at HCALL HST
        clear hck
        go_wp2_with fail
        refine wp_region_bw (by kernel_rfl) (by kernel_rfl) ?_
        repeat (go_big_quiet_step (with_reducible exact quiet (HCALL.out _)))
        refine wpQuiet_nil ?_
        rintro _ ⟨i, rfl⟩
        have hSI := hS.later i.h
        have hbI := bwb i hbr (by omega)
        have hzI : W2.heap.size ≤ i.W.heap.size := by have := i.h.size; omega
        have ckI := ck i
        clear ck p2
        generalize i.W = WI at *
        obtain ⟨bf, bs, bg⟩ := bb
        cases bf
        · have hst : downStep p.gain x ⟨false, bs, bg⟩ = ⟨true, x, cg⟩ := by rw [HST.out]; rfl
          replace HST := hide hst
          clear hst
          have s0 := hSI.cell 0 rfl
          have s1 := hSI.cell 1 rfl
          have s2 := hSI.cell 2 rfl
          have z0 := hSI.frozen 0
          have z1 := hSI.frozen 1
          have z2 := hSI.frozen 2
          go_wp2_with fail
          go_roundw
          case rel => exact ⟨j, by omega, rfl, by rw [HDN.out, HST.out]; exact ((hSI.set 0 _).set 1 _).set 2 _, ((hbI.setCell (p := ⟨W1.heap.size, 0, none⟩) (Nat.le_refl _) _).setCell (p := ⟨W1.heap.size, 1, none⟩) (Nat.le_refl _) _).setCell (p := ⟨W1.heap.size, 2, none⟩) (Nat.le_refl _) _, by simpa [World.setCell] using hzI⟩
          case measure => simp [intOf]
        · by_cases hlt : cg < bg
          · have hst : downStep p.gain x ⟨true, bs, bg⟩ = ⟨true, bs, bg⟩ := by rw [HST.out, if_pos (by simp [hlt])]
            replace HST := hide hst
            clear hst
            have hge : ¬ bg ≤ cg := by omega
            have s0 := hSI.cell 0 rfl
            have s1 := hSI.cell 1 rfl
            have s2 := hSI.cell 2 rfl
            go_wp2_with fail
            go_roundw
            case rel => exact ⟨j, by omega, rfl, by rw [HDN.out, HST.out]; exact hSI, hbI, hzI⟩
            case measure => simp [intOf]
          · have hst : downStep p.gain x ⟨true, bs, bg⟩ = ⟨true, x, cg⟩ := by rw [HST.out, if_neg (by simp; try omega)]
            replace HST := hide hst
            clear hst
            have hge : bg ≤ cg := by omega
            have s0 := hSI.cell 0 rfl
            have s1 := hSI.cell 1 rfl
            have s2 := hSI.cell 2 rfl
            have z0 := hSI.frozen 0
            have z1 := hSI.frozen 1
            have z2 := hSI.frozen 2
            go_wp2_with fail
            go_roundw
            case rel => exact ⟨j, by omega, rfl, by rw [HDN.out, HST.out]; exact ((hSI.set 0 _).set 1 _).set 2 _, ((hbI.setCell (p := ⟨W1.heap.size, 0, none⟩) (Nat.le_refl _) _).setCell (p := ⟨W1.heap.size, 1, none⟩) (Nat.le_refl _) _).setCell (p := ⟨W1.heap.size, 2, none⟩) (Nat.le_refl _) _, by simpa [World.setCell] using hzI⟩
            case measure => simp [intOf]
end Go.Proofs.Ytppfdjjhloaopaa
