/- OrderMatchesReference: for every input the law returns true, where the package's two tables hold what the text lays; and its tied card. No condition. -/
import Derived.Test.YtnidcoinfmcffaaDoorSfD
import Derived.Test.YtnidcoinfmcffaaDoorSfA
import Derived.Test.YtnidcoinfmcffaaDoorSfB
import Derived.Test.YtnidcoinfmcffaaDoorOtF
import Derived.Test.YtnidcoinfmcffaaDoorWrap
import Derived.Test.YtnidcoinfmcffaaDoorOtB
import Derived.LaidLaws
import Derived.LaidMore
import Derived.LaidHandle
import Derived.Handed
import Derived.Lib.LaidTab
import Derived.Test.YtnidcoinfmcffaaDoorTie
import Derived.Test.YtnidcoinfmcffaaDoorCards
import Derived.SevenTiedAt
/- The law's agree (chapter 15). Conditions: how the order and the list lie in memory, and the tables of math/bits. -/
namespace Go.Proofs.YtnidcoinfmcffaaDoor
open Go.RowKit
attribute [local go_sem] Oper.semAt_some
theorem intsB_refl (l : List Int) : intsB l l = true := intsB_yes rfl fun _ _ => rfl
set_option maxRecDepth 100000 in
set_option maxHeartbeats 4000000 in
theorem agree_no (o : OrderD) (pv lv : Value) (l : List Int) (a b : Int) (w : World) (hp : PairsIn w.cell? pv o.pairs) (hl : IntsIn w.cell? lv l) (hGl : Glob w) (hv : validO o = false) : Calls Tryd.prog 15 #[orderV o.n pv, lv, .int .i64 a, .int .i64 b] w (Ret (.bool true) w) := by
 obtain ⟨pa, pm, rfl, -, -, -⟩ := id hp
 obtain ⟨la, lc, rfl, -, -, -⟩ := id hl
 have HV := hide hv
 have HI := hide (intsB_refl (natsO ((cycF o).getD [])))
 go_enter Tryd.func15, Tryd.ntmps15
 go_wp2_with fail
 generalize hX1 : World.alloc w _ = X1
 have zX1 : X1.heap.size = w.heap.size + 1 := by rw [← hX1]; simp
 have bX1 : Below w.heap.size w X1 := by rw [← hX1]; exact bal w _
 have bO : Blk X1 (w.heap.size) [.int .i64 o.n, .slice pa o.pairs.length pm] 25 := by rw [← hX1]; exact Blk.newA w _ (by first | rfl | simp)
 have Xb := bX1
 have Xz := zX1
 clear hX1 zX1 bX1
 have hW := Xb
 replace hp := RecIn.below Xb hp
 replace hl := ints_low hl Xb
 replace hGl := hGl.later Xb
 have c0 := bO.cell 0 rfl
 have c1 := bO.cell 1 rfl
 clear Xb Xz hv
 go_wp2_with fail
 refine (cycle_any o _ _ hp).mono ?_
 rintro e w1 ⟨v, rfl, hv, hb⟩
 have hc := hv.at
 obtain ⟨ca, cc, rfl, -, -, -⟩ := id hc
 clear hv
 replace bO := bO.later hb
 replace hp := RecIn.below hb hp
 replace hl := ints_low hl hb
 replace hW := below2 hW hb
 replace hGl := hGl.later hb
 try replace hc := ints_low hc hb
 try replace hd := ints_low hd hb
 try replace bp := bp.later hb
 try replace bq := bq.later hb
 try replace br := br.later hb
 try replace bs := bs.later hb
 try replace hp1 := RecIn.below hb hp1
 try replace hp2 := RecIn.below hb hp2
 try replace hp3 := RecIn.below hb hp3
 try replace hp4 := RecIn.below hb hp4
 try replace hx := lists_low hx hb
 try replace hu1 := ints_low hu1 hb
 try replace hv1 := ints_low hv1 hb
 try replace hu2 := ints_low hu2 hb
 try replace hv2 := ints_low hv2 hb
 try replace hu3 := ints_low hu3 hb
 try replace hv3 := ints_low hv3 hb
 try replace hu4 := ints_low hu4 hb
 try replace hv4 := ints_low hv4 hb
 try replace hu5 := ints_low hu5 hb
 try replace hv5 := ints_low hv5 hb
 clear hb c0 c1
 have c0 := bO.cell 0 rfl
 have c1 := bO.cell 1 rfl
 go_wp2_with fail
 refine (rcycle_any o _ _ hp).mono ?_
 rintro e w2 ⟨v, rfl, hd, hb⟩
 obtain ⟨da, dc, rfl, -, -, -⟩ := id hd
 replace bO := bO.later hb
 replace hp := RecIn.below hb hp
 replace hl := ints_low hl hb
 replace hW := below2 hW hb
 replace hGl := hGl.later hb
 try replace hc := ints_low hc hb
 try replace hd := ints_low hd hb
 try replace bp := bp.later hb
 try replace bq := bq.later hb
 try replace br := br.later hb
 try replace bs := bs.later hb
 try replace hp1 := RecIn.below hb hp1
 try replace hp2 := RecIn.below hb hp2
 try replace hp3 := RecIn.below hb hp3
 try replace hp4 := RecIn.below hb hp4
 try replace hx := lists_low hx hb
 try replace hu1 := ints_low hu1 hb
 try replace hv1 := ints_low hv1 hb
 try replace hu2 := ints_low hu2 hb
 try replace hv2 := ints_low hv2 hb
 try replace hu3 := ints_low hu3 hb
 try replace hv3 := ints_low hv3 hb
 try replace hu4 := ints_low hu4 hb
 try replace hv4 := ints_low hv4 hb
 try replace hu5 := ints_low hu5 hb
 try replace hv5 := ints_low hv5 hb
 clear hb c0 c1
 have c0 := bO.cell 0 rfl
 have c1 := bO.cell 1 rfl
 generalize (natsO ((cycF o).getD [])).length = cl at *
 generalize (cycF o).isSome = cs at *
 have q0 : ∀ j : Bw w2.heap.size w2, j.W.cell? ⟨w.heap.size, 0, none⟩ = some (.int .i64 o.n) := bwc c0
 have q1 : ∀ j : Bw w2.heap.size w2, j.W.cell? ⟨w.heap.size, 1, none⟩ = some (.slice pa o.pairs.length pm) := bwc c1
 have HF1 := hide (fun j : Bw w2.heap.size w2 => formed_any o _ j.W (RecIn.below j.h hp))
 have HF2 := hide (fun j : Bw w2.heap.size w2 => rformed_any o _ j.W (RecIn.below j.h hp))
 have HA1 := hide (fun j : Bw w2.heap.size w2 => valid_any o _ j.W (RecIn.below j.h hp))
 have HA2 := hide (fun j : Bw w2.heap.size w2 => rvalid_any o _ j.W (RecIn.below j.h hp))
 have HB1 := hide (fun j : Bw w2.heap.size w2 => before_any o _ a b j.W (RecIn.below j.h hp))
 have HB2 := hide (fun j : Bw w2.heap.size w2 => rbef_any o _ a b j.W (RecIn.below j.h hp))
 have HL1 := hide (fun j : Bw w2.heap.size w2 => isline_no o _ _ l j.W (RecIn.below j.h hp) (ints_low hl j.h) HV.out)
 have HL2 := hide (fun j : Bw w2.heap.size w2 => risline_no o _ _ l j.W (RecIn.below j.h hp) (ints_low hl j.h) HV.out)
 have HIN := hide (fun j : Bw w2.heap.size w2 => ints_any _ _ _ _ j.W (ints_low hc j.h) (ints_low hd j.h))
 rw [HI.out] at HIN
 have HPW := hide hp
 have HGW := hide hGl
 have HWW := hide hW
 have HBO := hide bO
 clear hp hGl hW bO c0 c1 hl hc hd HI
 generalize formedO o = fo at *
 generalize befB o a b = be at *
 go_upto_region 3 with (fail)
 refine wp_region_bw (by kernel_rfl) (by kernel_rfl) ?_
 repeat (go_big_quiet_step ((first | (go_at_call 33; exact quiet (HF1.out _)) | (go_at_call 42; exact quiet (HF2.out _)) | (go_at_call 34; exact quiet (HA1.out _)) | (go_at_call 38; exact quiet (HA2.out _)) | (go_at_call 27; exact quiet (HB1.out _)) | (go_at_call 43; exact quiet (HB2.out _)) | (go_at_call 22; exact quiet (HL1.out _)) | (go_at_call 44; exact quiet (HL2.out _)) | (go_at_call 36; exact quiet (HIN.out _)))))
 refine wpQuiet_nil ?_
 rintro _ ⟨j, rfl⟩
 have hp := RecIn.below j.h HPW.out
 have hGl := HGW.out.later j.h
 have hW := below2 HWW.out j.h
 have bO := HBO.out.later j.h
 have hl : IntsIn j.W.cell? (.slice none 0 0) [] := IntsIn.nil _
 have c0 := bO.cell 0 rfl
 have c1 := bO.cell 1 rfl
 clear HF1 HF2 HA1 HA2 HB1 HB2 HL1 HL2 HIN q0 q1 HPW HGW HWW HBO
 generalize j.W = w3 at *
 go_wp2_with fail
 refine (close_no o _ _ hp HV.out).mono ?_
 rintro e w4 ⟨rfl, hb⟩
 replace bO := bO.later hb
 replace hp := RecIn.below hb hp
 replace hl := ints_low hl hb
 replace hW := below2 hW hb
 replace hGl := hGl.later hb
 try replace hc := ints_low hc hb
 try replace hd := ints_low hd hb
 try replace bp := bp.later hb
 try replace bq := bq.later hb
 try replace br := br.later hb
 try replace bs := bs.later hb
 try replace hp1 := RecIn.below hb hp1
 try replace hp2 := RecIn.below hb hp2
 try replace hp3 := RecIn.below hb hp3
 try replace hp4 := RecIn.below hb hp4
 try replace hx := lists_low hx hb
 try replace hu1 := ints_low hu1 hb
 try replace hv1 := ints_low hv1 hb
 try replace hu2 := ints_low hu2 hb
 try replace hv2 := ints_low hv2 hb
 try replace hu3 := ints_low hu3 hb
 try replace hv3 := ints_low hv3 hb
 try replace hu4 := ints_low hu4 hb
 try replace hv4 := ints_low hv4 hb
 try replace hu5 := ints_low hu5 hb
 try replace hv5 := ints_low hv5 hb
 clear hb c0 c1
 have c0 := bO.cell 0 rfl
 have c1 := bO.cell 1 rfl
 have e0 := fun o => keep (bal w4 o) c0
 have e1 := fun o => keep (bal w4 o) c1
 go_wp2_with fail
 clear e0 e1
 generalize hY1 : World.alloc w4 _ = Y1
 have zY1 : Y1.heap.size = w4.heap.size + 1 := by rw [← hY1]; simp
 have bY1 : Below w4.heap.size w4 Y1 := by rw [← hY1]; exact bal w4 _
 have bp : Blk Y1 (w4.heap.size) [.int .i64 0, .slice none 0 0] 25 := by rw [← hY1]; exact Blk.newA w4 _ (by first | rfl | simp)
 have Yb := bY1
 have Yz := zY1
 clear hY1 zY1 bY1
 have hb := Yb
 clear Yb Yz
 replace bO := bO.later hb
 replace hp := RecIn.below hb hp
 replace hl := ints_low hl hb
 replace hW := below2 hW hb
 replace hGl := hGl.later hb
 try replace hc := ints_low hc hb
 try replace hd := ints_low hd hb
 try replace bp := bp.later hb
 try replace bq := bq.later hb
 try replace br := br.later hb
 try replace bs := bs.later hb
 try replace hp1 := RecIn.below hb hp1
 try replace hp2 := RecIn.below hb hp2
 try replace hp3 := RecIn.below hb hp3
 try replace hp4 := RecIn.below hb hp4
 try replace hx := lists_low hx hb
 try replace hu1 := ints_low hu1 hb
 try replace hv1 := ints_low hv1 hb
 try replace hu2 := ints_low hu2 hb
 try replace hv2 := ints_low hv2 hb
 try replace hu3 := ints_low hu3 hb
 try replace hv3 := ints_low hv3 hb
 try replace hu4 := ints_low hu4 hb
 try replace hv4 := ints_low hv4 hb
 try replace hu5 := ints_low hu5 hb
 try replace hv5 := ints_low hv5 hb
 clear hb c0 c1
 have c0 := bO.cell 0 rfl
 have c1 := bO.cell 1 rfl
 refine (rclose_no o _ _ hp HV.out).mono ?_
 rintro e w5 ⟨rfl, hb⟩
 replace bO := bO.later hb
 replace hp := RecIn.below hb hp
 replace hl := ints_low hl hb
 replace hW := below2 hW hb
 replace hGl := hGl.later hb
 try replace hc := ints_low hc hb
 try replace hd := ints_low hd hb
 try replace bp := bp.later hb
 try replace bq := bq.later hb
 try replace br := br.later hb
 try replace bs := bs.later hb
 try replace hp1 := RecIn.below hb hp1
 try replace hp2 := RecIn.below hb hp2
 try replace hp3 := RecIn.below hb hp3
 try replace hp4 := RecIn.below hb hp4
 try replace hx := lists_low hx hb
 try replace hu1 := ints_low hu1 hb
 try replace hv1 := ints_low hv1 hb
 try replace hu2 := ints_low hu2 hb
 try replace hv2 := ints_low hv2 hb
 try replace hu3 := ints_low hu3 hb
 try replace hv3 := ints_low hv3 hb
 try replace hu4 := ints_low hu4 hb
 try replace hv4 := ints_low hv4 hb
 try replace hu5 := ints_low hu5 hb
 try replace hv5 := ints_low hv5 hb
 clear hb c0 c1
 have c0 := bO.cell 0 rfl
 have c1 := bO.cell 1 rfl
 have e0 := fun o => keep (bal w5 o) c0
 have e1 := fun o => keep (bal w5 o) c1
 go_wp2_with fail
 clear e0 e1
 generalize hZ1 : World.alloc w5 _ = Z1
 have zZ1 : Z1.heap.size = w5.heap.size + 1 := by rw [← hZ1]; simp
 have bZ1 : Below w5.heap.size w5 Z1 := by rw [← hZ1]; exact bal w5 _
 have bq : Blk Z1 (w5.heap.size) [.int .i64 0, .slice none 0 0] 25 := by rw [← hZ1]; exact Blk.newA w5 _ (by first | rfl | simp)
 have Zb := bZ1
 have Zz := zZ1
 clear hZ1 zZ1 bZ1
 have hb := Zb
 clear Zb Zz
 replace bO := bO.later hb
 replace hp := RecIn.below hb hp
 replace hl := ints_low hl hb
 replace hW := below2 hW hb
 replace hGl := hGl.later hb
 try replace hc := ints_low hc hb
 try replace hd := ints_low hd hb
 try replace bp := bp.later hb
 try replace bq := bq.later hb
 try replace br := br.later hb
 try replace bs := bs.later hb
 try replace hp1 := RecIn.below hb hp1
 try replace hp2 := RecIn.below hb hp2
 try replace hp3 := RecIn.below hb hp3
 try replace hp4 := RecIn.below hb hp4
 try replace hx := lists_low hx hb
 try replace hu1 := ints_low hu1 hb
 try replace hv1 := ints_low hv1 hb
 try replace hu2 := ints_low hu2 hb
 try replace hv2 := ints_low hv2 hb
 try replace hu3 := ints_low hu3 hb
 try replace hv3 := ints_low hv3 hb
 try replace hu4 := ints_low hu4 hb
 try replace hv4 := ints_low hv4 hb
 try replace hu5 := ints_low hu5 hb
 try replace hv5 := ints_low hv5 hb
 clear hb c0 c1
 have c0 := bO.cell 0 rfl
 have c1 := bO.cell 1 rfl
 refine (reduce_no o _ _ hp HV.out).mono ?_
 rintro e w6 ⟨rfl, hb⟩
 replace bO := bO.later hb
 replace hp := RecIn.below hb hp
 replace hl := ints_low hl hb
 replace hW := below2 hW hb
 replace hGl := hGl.later hb
 try replace hc := ints_low hc hb
 try replace hd := ints_low hd hb
 try replace bp := bp.later hb
 try replace bq := bq.later hb
 try replace br := br.later hb
 try replace bs := bs.later hb
 try replace hp1 := RecIn.below hb hp1
 try replace hp2 := RecIn.below hb hp2
 try replace hp3 := RecIn.below hb hp3
 try replace hp4 := RecIn.below hb hp4
 try replace hx := lists_low hx hb
 try replace hu1 := ints_low hu1 hb
 try replace hv1 := ints_low hv1 hb
 try replace hu2 := ints_low hu2 hb
 try replace hv2 := ints_low hv2 hb
 try replace hu3 := ints_low hu3 hb
 try replace hv3 := ints_low hv3 hb
 try replace hu4 := ints_low hu4 hb
 try replace hv4 := ints_low hv4 hb
 try replace hu5 := ints_low hu5 hb
 try replace hv5 := ints_low hv5 hb
 clear hb c0 c1
 have c0 := bO.cell 0 rfl
 have c1 := bO.cell 1 rfl
 have e0 := fun o => keep (bal w6 o) c0
 have e1 := fun o => keep (bal w6 o) c1
 go_wp2_with fail
 clear e0 e1
 generalize hU1 : World.alloc w6 _ = U1
 have zU1 : U1.heap.size = w6.heap.size + 1 := by rw [← hU1]; simp
 have bU1 : Below w6.heap.size w6 U1 := by rw [← hU1]; exact bal w6 _
 have br : Blk U1 (w6.heap.size) [.int .i64 0, .slice none 0 0] 25 := by rw [← hU1]; exact Blk.newA w6 _ (by first | rfl | simp)
 have Ub := bU1
 have Uz := zU1
 clear hU1 zU1 bU1
 have hb := Ub
 clear Ub Uz
 replace bO := bO.later hb
 replace hp := RecIn.below hb hp
 replace hl := ints_low hl hb
 replace hW := below2 hW hb
 replace hGl := hGl.later hb
 try replace hc := ints_low hc hb
 try replace hd := ints_low hd hb
 try replace bp := bp.later hb
 try replace bq := bq.later hb
 try replace br := br.later hb
 try replace bs := bs.later hb
 try replace hp1 := RecIn.below hb hp1
 try replace hp2 := RecIn.below hb hp2
 try replace hp3 := RecIn.below hb hp3
 try replace hp4 := RecIn.below hb hp4
 try replace hx := lists_low hx hb
 try replace hu1 := ints_low hu1 hb
 try replace hv1 := ints_low hv1 hb
 try replace hu2 := ints_low hu2 hb
 try replace hv2 := ints_low hv2 hb
 try replace hu3 := ints_low hu3 hb
 try replace hv3 := ints_low hv3 hb
 try replace hu4 := ints_low hu4 hb
 try replace hv4 := ints_low hv4 hb
 try replace hu5 := ints_low hu5 hb
 try replace hv5 := ints_low hv5 hb
 clear hb c0 c1
 have c0 := bO.cell 0 rfl
 have c1 := bO.cell 1 rfl
 refine (rreduce_no o _ _ hp HV.out).mono ?_
 rintro e w7 ⟨rfl, hb⟩
 replace bO := bO.later hb
 replace hp := RecIn.below hb hp
 replace hl := ints_low hl hb
 replace hW := below2 hW hb
 replace hGl := hGl.later hb
 try replace hc := ints_low hc hb
 try replace hd := ints_low hd hb
 try replace bp := bp.later hb
 try replace bq := bq.later hb
 try replace br := br.later hb
 try replace bs := bs.later hb
 try replace hp1 := RecIn.below hb hp1
 try replace hp2 := RecIn.below hb hp2
 try replace hp3 := RecIn.below hb hp3
 try replace hp4 := RecIn.below hb hp4
 try replace hx := lists_low hx hb
 try replace hu1 := ints_low hu1 hb
 try replace hv1 := ints_low hv1 hb
 try replace hu2 := ints_low hu2 hb
 try replace hv2 := ints_low hv2 hb
 try replace hu3 := ints_low hu3 hb
 try replace hv3 := ints_low hv3 hb
 try replace hu4 := ints_low hu4 hb
 try replace hv4 := ints_low hv4 hb
 try replace hu5 := ints_low hu5 hb
 try replace hv5 := ints_low hv5 hb
 clear hb c0 c1
 have c0 := bO.cell 0 rfl
 have c1 := bO.cell 1 rfl
 have e0 := fun o => keep (bal w7 o) c0
 have e1 := fun o => keep (bal w7 o) c1
 go_wp2_with fail
 clear e0 e1
 generalize hV1 : World.alloc w7 _ = V1
 have zV1 : V1.heap.size = w7.heap.size + 1 := by rw [← hV1]; simp
 have bV1 : Below w7.heap.size w7 V1 := by rw [← hV1]; exact bal w7 _
 have bs : Blk V1 (w7.heap.size) [.int .i64 0, .slice none 0 0] 25 := by rw [← hV1]; exact Blk.newA w7 _ (by first | rfl | simp)
 have Vb := bV1
 have Vz := zV1
 clear hV1 zV1 bV1
 have hb := Vb
 clear Vb Vz
 replace bO := bO.later hb
 replace hp := RecIn.below hb hp
 replace hl := ints_low hl hb
 replace hW := below2 hW hb
 replace hGl := hGl.later hb
 try replace hc := ints_low hc hb
 try replace hd := ints_low hd hb
 try replace bp := bp.later hb
 try replace bq := bq.later hb
 try replace br := br.later hb
 try replace bs := bs.later hb
 try replace hp1 := RecIn.below hb hp1
 try replace hp2 := RecIn.below hb hp2
 try replace hp3 := RecIn.below hb hp3
 try replace hp4 := RecIn.below hb hp4
 try replace hx := lists_low hx hb
 try replace hu1 := ints_low hu1 hb
 try replace hv1 := ints_low hv1 hb
 try replace hu2 := ints_low hu2 hb
 try replace hv2 := ints_low hv2 hb
 try replace hu3 := ints_low hu3 hb
 try replace hv3 := ints_low hv3 hb
 try replace hu4 := ints_low hu4 hb
 try replace hv4 := ints_low hv4 hb
 try replace hu5 := ints_low hu5 hb
 try replace hv5 := ints_low hv5 hb
 clear hb c0 c1
 have c0 := bO.cell 0 rfl
 have c1 := bO.cell 1 rfl
 refine (lines_no o _ _ hp HV.out).mono ?_
 rintro e w8 ⟨rfl, hb⟩
 replace bO := bO.later hb
 replace hp := RecIn.below hb hp
 replace hl := ints_low hl hb
 replace hW := below2 hW hb
 replace hGl := hGl.later hb
 try replace hc := ints_low hc hb
 try replace hd := ints_low hd hb
 try replace bp := bp.later hb
 try replace bq := bq.later hb
 try replace br := br.later hb
 try replace bs := bs.later hb
 try replace hp1 := RecIn.below hb hp1
 try replace hp2 := RecIn.below hb hp2
 try replace hp3 := RecIn.below hb hp3
 try replace hp4 := RecIn.below hb hp4
 try replace hx := lists_low hx hb
 try replace hu1 := ints_low hu1 hb
 try replace hv1 := ints_low hv1 hb
 try replace hu2 := ints_low hu2 hb
 try replace hv2 := ints_low hv2 hb
 try replace hu3 := ints_low hu3 hb
 try replace hv3 := ints_low hv3 hb
 try replace hu4 := ints_low hu4 hb
 try replace hv4 := ints_low hv4 hb
 try replace hu5 := ints_low hu5 hb
 try replace hv5 := ints_low hv5 hb
 clear hb c0 c1
 have c0 := bO.cell 0 rfl
 have c1 := bO.cell 1 rfl
 go_wp2_with fail
 refine (rlines_no o _ _ hp HV.out).mono ?_
 rintro e w9 ⟨rfl, hb⟩
 replace bO := bO.later hb
 replace hp := RecIn.below hb hp
 replace hl := ints_low hl hb
 replace hW := below2 hW hb
 replace hGl := hGl.later hb
 try replace hc := ints_low hc hb
 try replace hd := ints_low hd hb
 try replace bp := bp.later hb
 try replace bq := bq.later hb
 try replace br := br.later hb
 try replace bs := bs.later hb
 try replace hp1 := RecIn.below hb hp1
 try replace hp2 := RecIn.below hb hp2
 try replace hp3 := RecIn.below hb hp3
 try replace hp4 := RecIn.below hb hp4
 try replace hx := lists_low hx hb
 try replace hu1 := ints_low hu1 hb
 try replace hv1 := ints_low hv1 hb
 try replace hu2 := ints_low hu2 hb
 try replace hv2 := ints_low hv2 hb
 try replace hu3 := ints_low hu3 hb
 try replace hv3 := ints_low hv3 hb
 try replace hu4 := ints_low hu4 hb
 try replace hv4 := ints_low hv4 hb
 try replace hu5 := ints_low hu5 hb
 try replace hv5 := ints_low hv5 hb
 clear hb c0 c1
 have c0 := bO.cell 0 rfl
 have c1 := bO.cell 1 rfl
 go_wp2_with fail
 refine (cover_no o _ _ hp HV.out).mono ?_
 rintro e w10 ⟨rfl, hb⟩
 replace bO := bO.later hb
 replace hp := RecIn.below hb hp
 replace hl := ints_low hl hb
 replace hW := below2 hW hb
 replace hGl := hGl.later hb
 try replace hc := ints_low hc hb
 try replace hd := ints_low hd hb
 try replace bp := bp.later hb
 try replace bq := bq.later hb
 try replace br := br.later hb
 try replace bs := bs.later hb
 try replace hp1 := RecIn.below hb hp1
 try replace hp2 := RecIn.below hb hp2
 try replace hp3 := RecIn.below hb hp3
 try replace hp4 := RecIn.below hb hp4
 try replace hx := lists_low hx hb
 try replace hu1 := ints_low hu1 hb
 try replace hv1 := ints_low hv1 hb
 try replace hu2 := ints_low hu2 hb
 try replace hv2 := ints_low hv2 hb
 try replace hu3 := ints_low hu3 hb
 try replace hv3 := ints_low hv3 hb
 try replace hu4 := ints_low hu4 hb
 try replace hv4 := ints_low hv4 hb
 try replace hu5 := ints_low hu5 hb
 try replace hv5 := ints_low hv5 hb
 clear hb c0 c1
 have c0 := bO.cell 0 rfl
 have c1 := bO.cell 1 rfl
 go_wp2_with fail
 refine (rcover_no o _ _ hp HV.out).mono ?_
 rintro e w11 ⟨rfl, hb⟩
 replace bO := bO.later hb
 replace hp := RecIn.below hb hp
 replace hl := ints_low hl hb
 replace hW := below2 hW hb
 replace hGl := hGl.later hb
 try replace hc := ints_low hc hb
 try replace hd := ints_low hd hb
 try replace bp := bp.later hb
 try replace bq := bq.later hb
 try replace br := br.later hb
 try replace bs := bs.later hb
 try replace hp1 := RecIn.below hb hp1
 try replace hp2 := RecIn.below hb hp2
 try replace hp3 := RecIn.below hb hp3
 try replace hp4 := RecIn.below hb hp4
 try replace hx := lists_low hx hb
 try replace hu1 := ints_low hu1 hb
 try replace hv1 := ints_low hv1 hb
 try replace hu2 := ints_low hu2 hb
 try replace hv2 := ints_low hv2 hb
 try replace hu3 := ints_low hu3 hb
 try replace hv3 := ints_low hv3 hb
 try replace hu4 := ints_low hu4 hb
 try replace hv4 := ints_low hv4 hb
 try replace hu5 := ints_low hu5 hb
 try replace hv5 := ints_low hv5 hb
 clear hb c0 c1
 have c0 := bO.cell 0 rfl
 have c1 := bO.cell 1 rfl
 have HS1 := hide (fun W => same_any ⟨0, []⟩ ⟨0, []⟩ (.slice none 0 0) (.slice none 0 0) W (RecIn.nil _) (RecIn.nil _))
 have hsb : sameB ⟨0, []⟩ ⟨0, []⟩ = true := by decide
 rw [hsb] at HS1
 clear hsb
 have p0 := bp.cell 0 rfl
 have p1 := bp.cell 1 rfl
 have p2 := bq.cell 0 rfl
 have p3 := bq.cell 1 rfl
 have p4 := br.cell 0 rfl
 have p5 := br.cell 1 rfl
 have p6 := bs.cell 0 rfl
 have p7 := bs.cell 1 rfl
 go_wp2_with fail
 refine (HS1.out _).mono ?_
 rintro e w12 ⟨rfl, hb⟩
 replace bO := bO.later hb
 replace hp := RecIn.below hb hp
 replace hl := ints_low hl hb
 replace hW := below2 hW hb
 replace hGl := hGl.later hb
 try replace hc := ints_low hc hb
 try replace hd := ints_low hd hb
 try replace bp := bp.later hb
 try replace bq := bq.later hb
 try replace br := br.later hb
 try replace bs := bs.later hb
 try replace hp1 := RecIn.below hb hp1
 try replace hp2 := RecIn.below hb hp2
 try replace hp3 := RecIn.below hb hp3
 try replace hp4 := RecIn.below hb hp4
 try replace hx := lists_low hx hb
 try replace hu1 := ints_low hu1 hb
 try replace hv1 := ints_low hv1 hb
 try replace hu2 := ints_low hu2 hb
 try replace hv2 := ints_low hv2 hb
 try replace hu3 := ints_low hu3 hb
 try replace hv3 := ints_low hv3 hb
 try replace hu4 := ints_low hu4 hb
 try replace hv4 := ints_low hv4 hb
 try replace hu5 := ints_low hu5 hb
 try replace hv5 := ints_low hv5 hb
 clear hb c0 c1
 have c0 := bO.cell 0 rfl
 have c1 := bO.cell 1 rfl
 clear p0 p1 p2 p3 p4 p5 p6 p7
 have p0 := bp.cell 0 rfl
 have p1 := bp.cell 1 rfl
 have p2 := bq.cell 0 rfl
 have p3 := bq.cell 1 rfl
 have p4 := br.cell 0 rfl
 have p5 := br.cell 1 rfl
 have p6 := bs.cell 0 rfl
 have p7 := bs.cell 1 rfl
 go_wp2_with fail
 refine (HS1.out _).mono ?_
 rintro e w13 ⟨rfl, hb⟩
 replace bO := bO.later hb
 replace hp := RecIn.below hb hp
 replace hl := ints_low hl hb
 replace hW := below2 hW hb
 replace hGl := hGl.later hb
 try replace hc := ints_low hc hb
 try replace hd := ints_low hd hb
 try replace bp := bp.later hb
 try replace bq := bq.later hb
 try replace br := br.later hb
 try replace bs := bs.later hb
 try replace hp1 := RecIn.below hb hp1
 try replace hp2 := RecIn.below hb hp2
 try replace hp3 := RecIn.below hb hp3
 try replace hp4 := RecIn.below hb hp4
 try replace hx := lists_low hx hb
 try replace hu1 := ints_low hu1 hb
 try replace hv1 := ints_low hv1 hb
 try replace hu2 := ints_low hu2 hb
 try replace hv2 := ints_low hv2 hb
 try replace hu3 := ints_low hu3 hb
 try replace hv3 := ints_low hv3 hb
 try replace hu4 := ints_low hu4 hb
 try replace hv4 := ints_low hv4 hb
 try replace hu5 := ints_low hu5 hb
 try replace hv5 := ints_low hv5 hb
 clear hb c0 c1
 have c0 := bO.cell 0 rfl
 have c1 := bO.cell 1 rfl
 clear p0 p1 p2 p3 p4 p5 p6 p7
 go_wp2_with fail
 refine (prefixes_no o _ _ hp HV.out).mono ?_
 rintro e w33 ⟨rfl, hb⟩
 replace bO := bO.later hb
 replace hp := RecIn.below hb hp
 replace hl := ints_low hl hb
 replace hW := below2 hW hb
 replace hGl := hGl.later hb
 try replace hc := ints_low hc hb
 try replace hd := ints_low hd hb
 try replace bp := bp.later hb
 try replace bq := bq.later hb
 try replace br := br.later hb
 try replace bs := bs.later hb
 try replace hp1 := RecIn.below hb hp1
 try replace hp2 := RecIn.below hb hp2
 try replace hp3 := RecIn.below hb hp3
 try replace hp4 := RecIn.below hb hp4
 try replace hx := lists_low hx hb
 try replace hu1 := ints_low hu1 hb
 try replace hv1 := ints_low hv1 hb
 try replace hu2 := ints_low hu2 hb
 try replace hv2 := ints_low hv2 hb
 try replace hu3 := ints_low hu3 hb
 try replace hv3 := ints_low hv3 hb
 try replace hu4 := ints_low hu4 hb
 try replace hv4 := ints_low hv4 hb
 try replace hu5 := ints_low hu5 hb
 try replace hv5 := ints_low hv5 hb
 clear hb c0 c1
 have c0 := bO.cell 0 rfl
 have c1 := bO.cell 1 rfl
 go_wp2_with fail
 refine (rprefixes_no o _ _ hp HV.out).mono ?_
 rintro e w14 ⟨rfl, hb⟩
 replace bO := bO.later hb
 replace hp := RecIn.below hb hp
 replace hl := ints_low hl hb
 replace hW := below2 hW hb
 replace hGl := hGl.later hb
 try replace hc := ints_low hc hb
 try replace hd := ints_low hd hb
 try replace bp := bp.later hb
 try replace bq := bq.later hb
 try replace br := br.later hb
 try replace bs := bs.later hb
 try replace hp1 := RecIn.below hb hp1
 try replace hp2 := RecIn.below hb hp2
 try replace hp3 := RecIn.below hb hp3
 try replace hp4 := RecIn.below hb hp4
 try replace hx := lists_low hx hb
 try replace hu1 := ints_low hu1 hb
 try replace hv1 := ints_low hv1 hb
 try replace hu2 := ints_low hu2 hb
 try replace hv2 := ints_low hv2 hb
 try replace hu3 := ints_low hu3 hb
 try replace hv3 := ints_low hv3 hb
 try replace hu4 := ints_low hu4 hb
 try replace hv4 := ints_low hv4 hb
 try replace hu5 := ints_low hu5 hb
 try replace hv5 := ints_low hv5 hb
 clear hb c0 c1
 have c0 := bO.cell 0 rfl
 have c1 := bO.cell 1 rfl
 go_wp2_with fail
 refine (line_no o _ _ hp HV.out).mono ?_
 rintro e w15 ⟨rfl, hb⟩
 replace bO := bO.later hb
 replace hp := RecIn.below hb hp
 replace hl := ints_low hl hb
 replace hW := below2 hW hb
 replace hGl := hGl.later hb
 try replace hc := ints_low hc hb
 try replace hd := ints_low hd hb
 try replace bp := bp.later hb
 try replace bq := bq.later hb
 try replace br := br.later hb
 try replace bs := bs.later hb
 try replace hp1 := RecIn.below hb hp1
 try replace hp2 := RecIn.below hb hp2
 try replace hp3 := RecIn.below hb hp3
 try replace hp4 := RecIn.below hb hp4
 try replace hx := lists_low hx hb
 try replace hu1 := ints_low hu1 hb
 try replace hv1 := ints_low hv1 hb
 try replace hu2 := ints_low hu2 hb
 try replace hv2 := ints_low hv2 hb
 try replace hu3 := ints_low hu3 hb
 try replace hv3 := ints_low hv3 hb
 try replace hu4 := ints_low hu4 hb
 try replace hv4 := ints_low hv4 hb
 try replace hu5 := ints_low hu5 hb
 try replace hv5 := ints_low hv5 hb
 clear hb c0 c1
 have c0 := bO.cell 0 rfl
 have c1 := bO.cell 1 rfl
 go_wp2_with fail
 refine (rline_no o _ _ hp HV.out).mono ?_
 rintro e w16 ⟨rfl, hb⟩
 replace bO := bO.later hb
 replace hp := RecIn.below hb hp
 replace hl := ints_low hl hb
 replace hW := below2 hW hb
 replace hGl := hGl.later hb
 try replace hc := ints_low hc hb
 try replace hd := ints_low hd hb
 try replace bp := bp.later hb
 try replace bq := bq.later hb
 try replace br := br.later hb
 try replace bs := bs.later hb
 try replace hp1 := RecIn.below hb hp1
 try replace hp2 := RecIn.below hb hp2
 try replace hp3 := RecIn.below hb hp3
 try replace hp4 := RecIn.below hb hp4
 try replace hx := lists_low hx hb
 try replace hu1 := ints_low hu1 hb
 try replace hv1 := ints_low hv1 hb
 try replace hu2 := ints_low hu2 hb
 try replace hv2 := ints_low hv2 hb
 try replace hu3 := ints_low hu3 hb
 try replace hv3 := ints_low hv3 hb
 try replace hu4 := ints_low hu4 hb
 try replace hv4 := ints_low hv4 hb
 try replace hu5 := ints_low hu5 hb
 try replace hv5 := ints_low hv5 hb
 clear hb c0 c1
 have c0 := bO.cell 0 rfl
 have c1 := bO.cell 1 rfl
 go_wp2_with fail
 refine (levels_no o _ _ hp HV.out).mono ?_
 rintro e w17 ⟨rfl, hb⟩
 replace bO := bO.later hb
 replace hp := RecIn.below hb hp
 replace hl := ints_low hl hb
 replace hW := below2 hW hb
 replace hGl := hGl.later hb
 try replace hc := ints_low hc hb
 try replace hd := ints_low hd hb
 try replace bp := bp.later hb
 try replace bq := bq.later hb
 try replace br := br.later hb
 try replace bs := bs.later hb
 try replace hp1 := RecIn.below hb hp1
 try replace hp2 := RecIn.below hb hp2
 try replace hp3 := RecIn.below hb hp3
 try replace hp4 := RecIn.below hb hp4
 try replace hx := lists_low hx hb
 try replace hu1 := ints_low hu1 hb
 try replace hv1 := ints_low hv1 hb
 try replace hu2 := ints_low hu2 hb
 try replace hv2 := ints_low hv2 hb
 try replace hu3 := ints_low hu3 hb
 try replace hv3 := ints_low hv3 hb
 try replace hu4 := ints_low hu4 hb
 try replace hv4 := ints_low hv4 hb
 try replace hu5 := ints_low hu5 hb
 try replace hv5 := ints_low hv5 hb
 clear hb c0 c1
 have c0 := bO.cell 0 rfl
 have c1 := bO.cell 1 rfl
 go_wp2_with fail
 refine (rlevels_no o _ _ hp HV.out).mono ?_
 rintro e w18 ⟨rfl, hb⟩
 replace bO := bO.later hb
 replace hp := RecIn.below hb hp
 replace hl := ints_low hl hb
 replace hW := below2 hW hb
 replace hGl := hGl.later hb
 try replace hc := ints_low hc hb
 try replace hd := ints_low hd hb
 try replace bp := bp.later hb
 try replace bq := bq.later hb
 try replace br := br.later hb
 try replace bs := bs.later hb
 try replace hp1 := RecIn.below hb hp1
 try replace hp2 := RecIn.below hb hp2
 try replace hp3 := RecIn.below hb hp3
 try replace hp4 := RecIn.below hb hp4
 try replace hx := lists_low hx hb
 try replace hu1 := ints_low hu1 hb
 try replace hv1 := ints_low hv1 hb
 try replace hu2 := ints_low hu2 hb
 try replace hv2 := ints_low hv2 hb
 try replace hu3 := ints_low hu3 hb
 try replace hv3 := ints_low hv3 hb
 try replace hu4 := ints_low hu4 hb
 try replace hv4 := ints_low hv4 hb
 try replace hu5 := ints_low hu5 hb
 try replace hv5 := ints_low hv5 hb
 clear hb c0 c1
 have c0 := bO.cell 0 rfl
 have c1 := bO.cell 1 rfl
 go_wp2_with fail
 refine (chain_no o _ _ hp HV.out).mono ?_
 rintro e w19 ⟨rfl, hb⟩
 replace bO := bO.later hb
 replace hp := RecIn.below hb hp
 replace hl := ints_low hl hb
 replace hW := below2 hW hb
 replace hGl := hGl.later hb
 try replace hc := ints_low hc hb
 try replace hd := ints_low hd hb
 try replace bp := bp.later hb
 try replace bq := bq.later hb
 try replace br := br.later hb
 try replace bs := bs.later hb
 try replace hp1 := RecIn.below hb hp1
 try replace hp2 := RecIn.below hb hp2
 try replace hp3 := RecIn.below hb hp3
 try replace hp4 := RecIn.below hb hp4
 try replace hx := lists_low hx hb
 try replace hu1 := ints_low hu1 hb
 try replace hv1 := ints_low hv1 hb
 try replace hu2 := ints_low hu2 hb
 try replace hv2 := ints_low hv2 hb
 try replace hu3 := ints_low hu3 hb
 try replace hv3 := ints_low hv3 hb
 try replace hu4 := ints_low hu4 hb
 try replace hv4 := ints_low hv4 hb
 try replace hu5 := ints_low hu5 hb
 try replace hv5 := ints_low hv5 hb
 clear hb c0 c1
 have c0 := bO.cell 0 rfl
 have c1 := bO.cell 1 rfl
 go_wp2_with fail
 refine (rchain_no o _ _ hp HV.out).mono ?_
 rintro e w20 ⟨rfl, hb⟩
 replace bO := bO.later hb
 replace hp := RecIn.below hb hp
 replace hl := ints_low hl hb
 replace hW := below2 hW hb
 replace hGl := hGl.later hb
 try replace hc := ints_low hc hb
 try replace hd := ints_low hd hb
 try replace bp := bp.later hb
 try replace bq := bq.later hb
 try replace br := br.later hb
 try replace bs := bs.later hb
 try replace hp1 := RecIn.below hb hp1
 try replace hp2 := RecIn.below hb hp2
 try replace hp3 := RecIn.below hb hp3
 try replace hp4 := RecIn.below hb hp4
 try replace hx := lists_low hx hb
 try replace hu1 := ints_low hu1 hb
 try replace hv1 := ints_low hv1 hb
 try replace hu2 := ints_low hu2 hb
 try replace hv2 := ints_low hv2 hb
 try replace hu3 := ints_low hu3 hb
 try replace hv3 := ints_low hv3 hb
 try replace hu4 := ints_low hu4 hb
 try replace hv4 := ints_low hv4 hb
 try replace hu5 := ints_low hu5 hb
 try replace hv5 := ints_low hv5 hb
 clear hb c0 c1
 have c0 := bO.cell 0 rfl
 have c1 := bO.cell 1 rfl
 go_wp2_with fail
 refine (antichain_no o _ _ hp HV.out).mono ?_
 rintro e w21 ⟨rfl, hb⟩
 replace bO := bO.later hb
 replace hp := RecIn.below hb hp
 replace hl := ints_low hl hb
 replace hW := below2 hW hb
 replace hGl := hGl.later hb
 try replace hc := ints_low hc hb
 try replace hd := ints_low hd hb
 try replace bp := bp.later hb
 try replace bq := bq.later hb
 try replace br := br.later hb
 try replace bs := bs.later hb
 try replace hp1 := RecIn.below hb hp1
 try replace hp2 := RecIn.below hb hp2
 try replace hp3 := RecIn.below hb hp3
 try replace hp4 := RecIn.below hb hp4
 try replace hx := lists_low hx hb
 try replace hu1 := ints_low hu1 hb
 try replace hv1 := ints_low hv1 hb
 try replace hu2 := ints_low hu2 hb
 try replace hv2 := ints_low hv2 hb
 try replace hu3 := ints_low hu3 hb
 try replace hv3 := ints_low hv3 hb
 try replace hu4 := ints_low hu4 hb
 try replace hv4 := ints_low hv4 hb
 try replace hu5 := ints_low hu5 hb
 try replace hv5 := ints_low hv5 hb
 clear hb c0 c1
 have c0 := bO.cell 0 rfl
 have c1 := bO.cell 1 rfl
 go_wp2_with fail
 refine (rantichain_no o _ _ hp HV.out).mono ?_
 rintro e w22 ⟨rfl, hb⟩
 replace bO := bO.later hb
 replace hp := RecIn.below hb hp
 replace hl := ints_low hl hb
 replace hW := below2 hW hb
 replace hGl := hGl.later hb
 try replace hc := ints_low hc hb
 try replace hd := ints_low hd hb
 try replace bp := bp.later hb
 try replace bq := bq.later hb
 try replace br := br.later hb
 try replace bs := bs.later hb
 try replace hp1 := RecIn.below hb hp1
 try replace hp2 := RecIn.below hb hp2
 try replace hp3 := RecIn.below hb hp3
 try replace hp4 := RecIn.below hb hp4
 try replace hx := lists_low hx hb
 try replace hu1 := ints_low hu1 hb
 try replace hv1 := ints_low hv1 hb
 try replace hu2 := ints_low hu2 hb
 try replace hv2 := ints_low hv2 hb
 try replace hu3 := ints_low hu3 hb
 try replace hv3 := ints_low hv3 hb
 try replace hu4 := ints_low hu4 hb
 try replace hv4 := ints_low hv4 hb
 try replace hu5 := ints_low hu5 hb
 try replace hv5 := ints_low hv5 hb
 clear hb c0 c1
 have c0 := bO.cell 0 rfl
 have c1 := bO.cell 1 rfl
 go_wp2_with fail
 refine (ints_any [] [] _ _ _ (IntsIn.nil _) (IntsIn.nil _)).mono ?_
 rintro e w23 ⟨rfl, hb⟩
 replace hW := below2 hW hb
 clear hb
 go_wp2_with fail
 refine (ints_any [] [] _ _ _ (IntsIn.nil _) (IntsIn.nil _)).mono ?_
 rintro e w24 ⟨rfl, hb⟩
 replace hW := below2 hW hb
 clear hb
 go_wp2_with fail
 refine (ints_any [] [] _ _ _ (IntsIn.nil _) (IntsIn.nil _)).mono ?_
 rintro e w25 ⟨rfl, hb⟩
 replace hW := below2 hW hb
 clear hb
 go_wp2_with fail
 refine (ints_any [] [] _ _ _ (IntsIn.nil _) (IntsIn.nil _)).mono ?_
 rintro e w26 ⟨rfl, hb⟩
 replace hW := below2 hW hb
 clear hb
 go_wp2_with fail
 refine (ints_any [] [] _ _ _ (IntsIn.nil _) (IntsIn.nil _)).mono ?_
 rintro e w27 ⟨rfl, hb⟩
 replace hW := below2 hW hb
 go_wp2_with fail
 go_ret
 exact ⟨rfl, hW⟩
theorem lists_fr {B : Nat} {W : World} {v : Value} {L : List (List Int)} (h : ListsIn (frm B W) v L) : ListsIn W.cell? v L := by
 obtain ⟨a, n, e, h1, h2, h3⟩ := h
 exact ⟨a, n, e, h1, h2, fun i hi => let ⟨b, o, u, q1, q2, q3⟩ := h3 i hi; ⟨b, o, u, q1, (frm_block q2).2, q3.at⟩⟩
theorem sameB_refl (o : OrderD) : sameB o o = true := by unfold sameB; simp
set_option maxRecDepth 100000 in
set_option maxHeartbeats 4000000 in
theorem agree_yes (n : Nat) (ps : List (Int × Int)) (pv lv : Value) (l : List Int) (a b : Int) (w : World) (hp : PairsIn w.cell? pv ps) (hl : IntsIn w.cell? lv l) (hGl : Glob w) (hv : validO ⟨n, ps⟩ = true) : Calls Tryd.prog 15 #[orderV n pv, lv, .int .i64 a, .int .i64 b] w (Ret (.bool true) w) := by
 obtain ⟨pa, pm, rfl, -, -, -⟩ := id hp
 obtain ⟨la, lc, rfl, -, -, -⟩ := id hl
 have HPO : PoO n (beforeO ⟨n, ps⟩) := before_po hv
 obtain ⟨o, ho⟩ : ∃ o : OrderD, o = ⟨(n : Int), ps⟩ := ⟨_, rfl⟩
 have HI := hide (intsB_refl (natsO ((cycF o).getD [])))
 have K1 := hide (fun pv W hp => close_yes n ps pv W hp hv)
 have K2 := hide (fun pv W hp => rclose_yes n ps pv W hp hv)
 have K3 := hide (fun pv W hp => reduce_yes n ps pv W hp hv)
 have K4 := hide (fun pv W hp => rreduce_yes n ps pv W hp hv)
 have K5 := hide (fun pv W hp => lines_yes n ps pv W hp hv)
 have K6 := hide (fun pv W hp => rlines_yes n ps pv W hp hv)
 have K7 := hide (fun pv W hp => cover_yes n ps pv W hp hv)
 have K8 := hide (fun pv W hp => rcover_yes n ps pv W hp hv)
 have K9 := hide (fun pv W hp => prefixes_yes n ps pv W hp hv)
 have K10 := hide (fun pv W hp => rprefixes_yes n ps pv W hp hv)
 have K11 := hide (fun pv W hp => line_yes n ps pv W hp hv)
 have K12 := hide (fun pv W hp => rline_yes n ps pv W hp hv)
 have K13 := hide (fun pv W hp => levels_yes n ps pv W hp hv)
 have K14 := hide (fun pv W hp => rlevels_yes n ps pv W hp hv)
 have K15 := hide (fun pv W hp => chain_yes n ps pv W hp hv)
 have K16 := hide (fun pv W hp => rchain_yes n ps pv W hp hv)
 have K17 := hide (fun pv W hg hp => antichain_yes n ps pv W hg hp hv)
 have K18 := hide (fun pv W hp => rantichain_yes n ps pv W hp hv)
 have KC := hide (fun pv lv W hp hl => riscover_any n ps pv lv (coverO n (beforeO ⟨n, ps⟩)) W hp hl hv (cover_is HPO).1)
 have KL1 := hide (fun pv lv W hp hl => isline_yes n ps pv lv l W hp hl hv)
 have KL2 := hide (fun pv lv W hp hl => risline_yes n ps pv lv l W hp hl hv)
 have hcl : (natsL (coverO n (beforeO ⟨n, ps⟩))).length = (coverO n (beforeO ⟨n, ps⟩)).length := natsL_len _
 generalize listO n (beforeO ⟨n, ps⟩) = LO at *
 generalize redL n (beforeO ⟨n, ps⟩) = RO at *
 generalize (linesO n (beforeO ⟨n, ps⟩)).length = LN at *
 generalize natsL (coverO n (beforeO ⟨n, ps⟩)) = CO at *
 generalize (coverO n (beforeO ⟨n, ps⟩)).length = cm at *
 generalize natsO (prefixesO n (beforeO ⟨n, ps⟩)) = L1 at *
 generalize natsO (lineO n (beforeO ⟨n, ps⟩)) = L2 at *
 generalize natsO ((List.range n).map (levO n (beforeO ⟨n, ps⟩))) = L3 at *
 generalize natsO (chainO n (beforeO ⟨n, ps⟩)) = L4 at *
 generalize natsO (antiO n (beforeO ⟨n, ps⟩)) = L5 at *
 generalize isLineB n (beforeO ⟨n, ps⟩) l = il at *
 have HCL := hide hcl
 have HF := hide (fun pv W (h : PairsIn W.cell? pv ps) => (show Calls Tryd.prog 32 #[orderV (n : Int) pv] W (CycQ (cycF o) W) by rw [ho]; exact cycle_any ⟨n, ps⟩ pv W h))
 have HG := hide (fun pv W (h : PairsIn W.cell? pv ps) => (show Calls Tryd.prog 41 #[orderV (n : Int) pv] W (CycA (cycF o) W) by rw [ho]; exact rcycle_any ⟨n, ps⟩ pv W h))
 have J1 := hide (fun pv W (h : PairsIn W.cell? pv ps) => formed_any ⟨n, ps⟩ pv W h)
 have J2 := hide (fun pv W (h : PairsIn W.cell? pv ps) => rformed_any ⟨n, ps⟩ pv W h)
 have J3 := hide (fun pv W (h : PairsIn W.cell? pv ps) => valid_any ⟨n, ps⟩ pv W h)
 have J4 := hide (fun pv W (h : PairsIn W.cell? pv ps) => rvalid_any ⟨n, ps⟩ pv W h)
 have J5 := hide (fun pv W (h : PairsIn W.cell? pv ps) => before_any ⟨n, ps⟩ pv a b W h)
 have J6 := hide (fun pv W (h : PairsIn W.cell? pv ps) => rbef_any ⟨n, ps⟩ pv a b W h)
 generalize formedO ⟨n, ps⟩ = fo at *
 generalize validO ⟨n, ps⟩ = vo at *
 generalize befB ⟨n, ps⟩ a b = be at *
 generalize cycF o = co at *
 clear ho HPO hcl
 go_enter Tryd.func15, Tryd.ntmps15
 go_wp2_with fail
 generalize hX1 : World.alloc w _ = X1
 have zX1 : X1.heap.size = w.heap.size + 1 := by rw [← hX1]; simp
 have bX1 : Below w.heap.size w X1 := by rw [← hX1]; exact bal w _
 have bO : Blk X1 (w.heap.size) [.int .i64 (n : Nat), .slice pa ps.length pm] 25 := by rw [← hX1]; exact Blk.newA w _ (by first | rfl | simp)
 have Xb := bX1
 have Xz := zX1
 clear hX1 zX1 bX1
 have hW := Xb
 replace hp := RecIn.below Xb hp
 replace hl := ints_low hl Xb
 replace hGl := hGl.later Xb
 have c0 := bO.cell 0 rfl
 have c1 := bO.cell 1 rfl
 clear Xb Xz hv
 go_wp2_with fail
 refine (HF.out _ _ hp).mono ?_
 rintro e w1 ⟨v, rfl, hv, hb⟩
 have hc := hv.at
 obtain ⟨ca, cc, rfl, -, -, -⟩ := id hc
 clear hv
 replace bO := bO.later hb
 replace hp := RecIn.below hb hp
 replace hl := ints_low hl hb
 replace hW := below2 hW hb
 replace hGl := hGl.later hb
 try replace hc := ints_low hc hb
 try replace hd := ints_low hd hb
 try replace bp := bp.later hb
 try replace bq := bq.later hb
 try replace br := br.later hb
 try replace bs := bs.later hb
 try replace hp1 := RecIn.below hb hp1
 try replace hp2 := RecIn.below hb hp2
 try replace hp3 := RecIn.below hb hp3
 try replace hp4 := RecIn.below hb hp4
 try replace hx := lists_low hx hb
 try replace hu1 := ints_low hu1 hb
 try replace hv1 := ints_low hv1 hb
 try replace hu2 := ints_low hu2 hb
 try replace hv2 := ints_low hv2 hb
 try replace hu3 := ints_low hu3 hb
 try replace hv3 := ints_low hv3 hb
 try replace hu4 := ints_low hu4 hb
 try replace hv4 := ints_low hv4 hb
 try replace hu5 := ints_low hu5 hb
 try replace hv5 := ints_low hv5 hb
 clear hb c0 c1
 have c0 := bO.cell 0 rfl
 have c1 := bO.cell 1 rfl
 go_wp2_with fail
 refine (HG.out _ _ hp).mono ?_
 rintro e w2 ⟨v, rfl, hd, hb⟩
 obtain ⟨da, dc, rfl, -, -, -⟩ := id hd
 replace bO := bO.later hb
 replace hp := RecIn.below hb hp
 replace hl := ints_low hl hb
 replace hW := below2 hW hb
 replace hGl := hGl.later hb
 try replace hc := ints_low hc hb
 try replace hd := ints_low hd hb
 try replace bp := bp.later hb
 try replace bq := bq.later hb
 try replace br := br.later hb
 try replace bs := bs.later hb
 try replace hp1 := RecIn.below hb hp1
 try replace hp2 := RecIn.below hb hp2
 try replace hp3 := RecIn.below hb hp3
 try replace hp4 := RecIn.below hb hp4
 try replace hx := lists_low hx hb
 try replace hu1 := ints_low hu1 hb
 try replace hv1 := ints_low hv1 hb
 try replace hu2 := ints_low hu2 hb
 try replace hv2 := ints_low hv2 hb
 try replace hu3 := ints_low hu3 hb
 try replace hv3 := ints_low hv3 hb
 try replace hu4 := ints_low hu4 hb
 try replace hv4 := ints_low hv4 hb
 try replace hu5 := ints_low hu5 hb
 try replace hv5 := ints_low hv5 hb
 clear hb c0 c1
 have c0 := bO.cell 0 rfl
 have c1 := bO.cell 1 rfl
 generalize co.isSome = cs at *
 have q0 : ∀ j : Bw w2.heap.size w2, j.W.cell? ⟨w.heap.size, 0, none⟩ = some (.int .i64 (n : Nat)) := bwc c0
 have q1 : ∀ j : Bw w2.heap.size w2, j.W.cell? ⟨w.heap.size, 1, none⟩ = some (.slice pa ps.length pm) := bwc c1
 have HF1 := hide (fun j : Bw w2.heap.size w2 => J1.out _ j.W (RecIn.below j.h hp))
 have HF2 := hide (fun j : Bw w2.heap.size w2 => J2.out _ j.W (RecIn.below j.h hp))
 have HA1 := hide (fun j : Bw w2.heap.size w2 => J3.out _ j.W (RecIn.below j.h hp))
 have HA2 := hide (fun j : Bw w2.heap.size w2 => J4.out _ j.W (RecIn.below j.h hp))
 have HB1 := hide (fun j : Bw w2.heap.size w2 => J5.out _ j.W (RecIn.below j.h hp))
 have HB2 := hide (fun j : Bw w2.heap.size w2 => J6.out _ j.W (RecIn.below j.h hp))
 have HL1 := hide (fun j : Bw w2.heap.size w2 => KL1.out _ _ j.W (RecIn.below j.h hp) (ints_low hl j.h))
 have HL2 := hide (fun j : Bw w2.heap.size w2 => KL2.out _ _ j.W (RecIn.below j.h hp) (ints_low hl j.h))
 have HIN := hide (fun j : Bw w2.heap.size w2 => ints_any _ _ _ _ j.W (ints_low hc j.h) (ints_low hd j.h))
 rw [HI.out] at HIN
 generalize natsO (co.getD []) = cy at *
 have HPW := hide hp
 have HGW := hide hGl
 have HWW := hide hW
 have HBO := hide bO
 clear hp hGl hW bO c0 c1 hl hc hd HI HF HG J1 J2 J3 J4 J5 J6 KL1 KL2
 go_upto_region 3 with (fail)
 refine wp_region_bw (by kernel_rfl) (by kernel_rfl) ?_
 repeat (go_big_quiet_step ((first | (go_at_call 33; exact quiet (HF1.out _)) | (go_at_call 42; exact quiet (HF2.out _)) | (go_at_call 34; exact quiet (HA1.out _)) | (go_at_call 38; exact quiet (HA2.out _)) | (go_at_call 27; exact quiet (HB1.out _)) | (go_at_call 43; exact quiet (HB2.out _)) | (go_at_call 22; exact quiet (HL1.out _)) | (go_at_call 44; exact quiet (HL2.out _)) | (go_at_call 36; exact quiet (HIN.out _)))))
 refine wpQuiet_nil ?_
 rintro _ ⟨j, rfl⟩
 have hp := RecIn.below j.h HPW.out
 have hGl := HGW.out.later j.h
 have hW := below2 HWW.out j.h
 have bO := HBO.out.later j.h
 have hl : IntsIn j.W.cell? (.slice none 0 0) [] := IntsIn.nil _
 have c0 := bO.cell 0 rfl
 have c1 := bO.cell 1 rfl
 clear HF1 HF2 HA1 HA2 HB1 HB2 HL1 HL2 HIN q0 q1 HPW HGW HWW HBO
 generalize j.W = w3 at *
 go_wp2_with fail
 refine ((K1).out _ _ hp).mono ?_
 rintro e w4 ⟨pv', rfl, hv, hb⟩
 have hp1 := hv.at
 obtain ⟨a1, m1, rfl, -, -, -⟩ := id hp1
 clear hv
 replace bO := bO.later hb
 replace hp := RecIn.below hb hp
 replace hl := ints_low hl hb
 replace hW := below2 hW hb
 replace hGl := hGl.later hb
 try replace hc := ints_low hc hb
 try replace hd := ints_low hd hb
 try replace bp := bp.later hb
 try replace bq := bq.later hb
 try replace br := br.later hb
 try replace bs := bs.later hb
 try replace hp1 := RecIn.below hb hp1
 try replace hp2 := RecIn.below hb hp2
 try replace hp3 := RecIn.below hb hp3
 try replace hp4 := RecIn.below hb hp4
 try replace hx := lists_low hx hb
 try replace hu1 := ints_low hu1 hb
 try replace hv1 := ints_low hv1 hb
 try replace hu2 := ints_low hu2 hb
 try replace hv2 := ints_low hv2 hb
 try replace hu3 := ints_low hu3 hb
 try replace hv3 := ints_low hv3 hb
 try replace hu4 := ints_low hu4 hb
 try replace hv4 := ints_low hv4 hb
 try replace hu5 := ints_low hu5 hb
 try replace hv5 := ints_low hv5 hb
 clear hb c0 c1
 have c0 := bO.cell 0 rfl
 have c1 := bO.cell 1 rfl
 have e0 := fun o => keep (bal w4 o) c0
 have e1 := fun o => keep (bal w4 o) c1
 go_wp2_with fail
 clear e0 e1
 generalize hY1 : World.alloc w4 _ = Y1
 have zY1 : Y1.heap.size = w4.heap.size + 1 := by rw [← hY1]; simp
 have bY1 : Below w4.heap.size w4 Y1 := by rw [← hY1]; exact bal w4 _
 have bp : Blk Y1 (w4.heap.size) [.int .i64 (n : Nat), .slice a1 (LO).length m1] 25 := by rw [← hY1]; exact Blk.newA w4 _ (by first | rfl | simp)
 have Yb := bY1
 have Yz := zY1
 clear hY1 zY1 bY1
 have hb := Yb
 clear Yb Yz
 replace bO := bO.later hb
 replace hp := RecIn.below hb hp
 replace hl := ints_low hl hb
 replace hW := below2 hW hb
 replace hGl := hGl.later hb
 try replace hc := ints_low hc hb
 try replace hd := ints_low hd hb
 try replace bp := bp.later hb
 try replace bq := bq.later hb
 try replace br := br.later hb
 try replace bs := bs.later hb
 try replace hp1 := RecIn.below hb hp1
 try replace hp2 := RecIn.below hb hp2
 try replace hp3 := RecIn.below hb hp3
 try replace hp4 := RecIn.below hb hp4
 try replace hx := lists_low hx hb
 try replace hu1 := ints_low hu1 hb
 try replace hv1 := ints_low hv1 hb
 try replace hu2 := ints_low hu2 hb
 try replace hv2 := ints_low hv2 hb
 try replace hu3 := ints_low hu3 hb
 try replace hv3 := ints_low hv3 hb
 try replace hu4 := ints_low hu4 hb
 try replace hv4 := ints_low hv4 hb
 try replace hu5 := ints_low hu5 hb
 try replace hv5 := ints_low hv5 hb
 clear hb c0 c1
 have c0 := bO.cell 0 rfl
 have c1 := bO.cell 1 rfl
 refine ((K2).out _ _ hp).mono ?_
 rintro e w5 ⟨pv', rfl, hv, hb⟩
 have hp2 := hv.at
 obtain ⟨a2, m2, rfl, -, -, -⟩ := id hp2
 clear hv
 replace bO := bO.later hb
 replace hp := RecIn.below hb hp
 replace hl := ints_low hl hb
 replace hW := below2 hW hb
 replace hGl := hGl.later hb
 try replace hc := ints_low hc hb
 try replace hd := ints_low hd hb
 try replace bp := bp.later hb
 try replace bq := bq.later hb
 try replace br := br.later hb
 try replace bs := bs.later hb
 try replace hp1 := RecIn.below hb hp1
 try replace hp2 := RecIn.below hb hp2
 try replace hp3 := RecIn.below hb hp3
 try replace hp4 := RecIn.below hb hp4
 try replace hx := lists_low hx hb
 try replace hu1 := ints_low hu1 hb
 try replace hv1 := ints_low hv1 hb
 try replace hu2 := ints_low hu2 hb
 try replace hv2 := ints_low hv2 hb
 try replace hu3 := ints_low hu3 hb
 try replace hv3 := ints_low hv3 hb
 try replace hu4 := ints_low hu4 hb
 try replace hv4 := ints_low hv4 hb
 try replace hu5 := ints_low hu5 hb
 try replace hv5 := ints_low hv5 hb
 clear hb c0 c1
 have c0 := bO.cell 0 rfl
 have c1 := bO.cell 1 rfl
 have e0 := fun o => keep (bal w5 o) c0
 have e1 := fun o => keep (bal w5 o) c1
 go_wp2_with fail
 clear e0 e1
 generalize hZ1 : World.alloc w5 _ = Z1
 have zZ1 : Z1.heap.size = w5.heap.size + 1 := by rw [← hZ1]; simp
 have bZ1 : Below w5.heap.size w5 Z1 := by rw [← hZ1]; exact bal w5 _
 have bq : Blk Z1 (w5.heap.size) [.int .i64 (n : Nat), .slice a2 (LO).length m2] 25 := by rw [← hZ1]; exact Blk.newA w5 _ (by first | rfl | simp)
 have Zb := bZ1
 have Zz := zZ1
 clear hZ1 zZ1 bZ1
 have hb := Zb
 clear Zb Zz
 replace bO := bO.later hb
 replace hp := RecIn.below hb hp
 replace hl := ints_low hl hb
 replace hW := below2 hW hb
 replace hGl := hGl.later hb
 try replace hc := ints_low hc hb
 try replace hd := ints_low hd hb
 try replace bp := bp.later hb
 try replace bq := bq.later hb
 try replace br := br.later hb
 try replace bs := bs.later hb
 try replace hp1 := RecIn.below hb hp1
 try replace hp2 := RecIn.below hb hp2
 try replace hp3 := RecIn.below hb hp3
 try replace hp4 := RecIn.below hb hp4
 try replace hx := lists_low hx hb
 try replace hu1 := ints_low hu1 hb
 try replace hv1 := ints_low hv1 hb
 try replace hu2 := ints_low hu2 hb
 try replace hv2 := ints_low hv2 hb
 try replace hu3 := ints_low hu3 hb
 try replace hv3 := ints_low hv3 hb
 try replace hu4 := ints_low hu4 hb
 try replace hv4 := ints_low hv4 hb
 try replace hu5 := ints_low hu5 hb
 try replace hv5 := ints_low hv5 hb
 clear hb c0 c1
 have c0 := bO.cell 0 rfl
 have c1 := bO.cell 1 rfl
 refine ((K3).out _ _ hp).mono ?_
 rintro e w6 ⟨pv', rfl, hv, hb⟩
 have hp3 := hv.at
 obtain ⟨a3, m3, rfl, -, -, -⟩ := id hp3
 clear hv
 replace bO := bO.later hb
 replace hp := RecIn.below hb hp
 replace hl := ints_low hl hb
 replace hW := below2 hW hb
 replace hGl := hGl.later hb
 try replace hc := ints_low hc hb
 try replace hd := ints_low hd hb
 try replace bp := bp.later hb
 try replace bq := bq.later hb
 try replace br := br.later hb
 try replace bs := bs.later hb
 try replace hp1 := RecIn.below hb hp1
 try replace hp2 := RecIn.below hb hp2
 try replace hp3 := RecIn.below hb hp3
 try replace hp4 := RecIn.below hb hp4
 try replace hx := lists_low hx hb
 try replace hu1 := ints_low hu1 hb
 try replace hv1 := ints_low hv1 hb
 try replace hu2 := ints_low hu2 hb
 try replace hv2 := ints_low hv2 hb
 try replace hu3 := ints_low hu3 hb
 try replace hv3 := ints_low hv3 hb
 try replace hu4 := ints_low hu4 hb
 try replace hv4 := ints_low hv4 hb
 try replace hu5 := ints_low hu5 hb
 try replace hv5 := ints_low hv5 hb
 clear hb c0 c1
 have c0 := bO.cell 0 rfl
 have c1 := bO.cell 1 rfl
 have e0 := fun o => keep (bal w6 o) c0
 have e1 := fun o => keep (bal w6 o) c1
 go_wp2_with fail
 clear e0 e1
 generalize hU1 : World.alloc w6 _ = U1
 have zU1 : U1.heap.size = w6.heap.size + 1 := by rw [← hU1]; simp
 have bU1 : Below w6.heap.size w6 U1 := by rw [← hU1]; exact bal w6 _
 have br : Blk U1 (w6.heap.size) [.int .i64 (n : Nat), .slice a3 (RO).length m3] 25 := by rw [← hU1]; exact Blk.newA w6 _ (by first | rfl | simp)
 have Ub := bU1
 have Uz := zU1
 clear hU1 zU1 bU1
 have hb := Ub
 clear Ub Uz
 replace bO := bO.later hb
 replace hp := RecIn.below hb hp
 replace hl := ints_low hl hb
 replace hW := below2 hW hb
 replace hGl := hGl.later hb
 try replace hc := ints_low hc hb
 try replace hd := ints_low hd hb
 try replace bp := bp.later hb
 try replace bq := bq.later hb
 try replace br := br.later hb
 try replace bs := bs.later hb
 try replace hp1 := RecIn.below hb hp1
 try replace hp2 := RecIn.below hb hp2
 try replace hp3 := RecIn.below hb hp3
 try replace hp4 := RecIn.below hb hp4
 try replace hx := lists_low hx hb
 try replace hu1 := ints_low hu1 hb
 try replace hv1 := ints_low hv1 hb
 try replace hu2 := ints_low hu2 hb
 try replace hv2 := ints_low hv2 hb
 try replace hu3 := ints_low hu3 hb
 try replace hv3 := ints_low hv3 hb
 try replace hu4 := ints_low hu4 hb
 try replace hv4 := ints_low hv4 hb
 try replace hu5 := ints_low hu5 hb
 try replace hv5 := ints_low hv5 hb
 clear hb c0 c1
 have c0 := bO.cell 0 rfl
 have c1 := bO.cell 1 rfl
 refine ((K4).out _ _ hp).mono ?_
 rintro e w7 ⟨pv', rfl, hv, hb⟩
 have hp4 := hv.at
 obtain ⟨a4, m4, rfl, -, -, -⟩ := id hp4
 clear hv
 replace bO := bO.later hb
 replace hp := RecIn.below hb hp
 replace hl := ints_low hl hb
 replace hW := below2 hW hb
 replace hGl := hGl.later hb
 try replace hc := ints_low hc hb
 try replace hd := ints_low hd hb
 try replace bp := bp.later hb
 try replace bq := bq.later hb
 try replace br := br.later hb
 try replace bs := bs.later hb
 try replace hp1 := RecIn.below hb hp1
 try replace hp2 := RecIn.below hb hp2
 try replace hp3 := RecIn.below hb hp3
 try replace hp4 := RecIn.below hb hp4
 try replace hx := lists_low hx hb
 try replace hu1 := ints_low hu1 hb
 try replace hv1 := ints_low hv1 hb
 try replace hu2 := ints_low hu2 hb
 try replace hv2 := ints_low hv2 hb
 try replace hu3 := ints_low hu3 hb
 try replace hv3 := ints_low hv3 hb
 try replace hu4 := ints_low hu4 hb
 try replace hv4 := ints_low hv4 hb
 try replace hu5 := ints_low hu5 hb
 try replace hv5 := ints_low hv5 hb
 clear hb c0 c1
 have c0 := bO.cell 0 rfl
 have c1 := bO.cell 1 rfl
 have e0 := fun o => keep (bal w7 o) c0
 have e1 := fun o => keep (bal w7 o) c1
 go_wp2_with fail
 clear e0 e1
 generalize hV1 : World.alloc w7 _ = V1
 have zV1 : V1.heap.size = w7.heap.size + 1 := by rw [← hV1]; simp
 have bV1 : Below w7.heap.size w7 V1 := by rw [← hV1]; exact bal w7 _
 have bs : Blk V1 (w7.heap.size) [.int .i64 (n : Nat), .slice a4 (RO).length m4] 25 := by rw [← hV1]; exact Blk.newA w7 _ (by first | rfl | simp)
 have Vb := bV1
 have Vz := zV1
 clear hV1 zV1 bV1
 have hb := Vb
 clear Vb Vz
 replace bO := bO.later hb
 replace hp := RecIn.below hb hp
 replace hl := ints_low hl hb
 replace hW := below2 hW hb
 replace hGl := hGl.later hb
 try replace hc := ints_low hc hb
 try replace hd := ints_low hd hb
 try replace bp := bp.later hb
 try replace bq := bq.later hb
 try replace br := br.later hb
 try replace bs := bs.later hb
 try replace hp1 := RecIn.below hb hp1
 try replace hp2 := RecIn.below hb hp2
 try replace hp3 := RecIn.below hb hp3
 try replace hp4 := RecIn.below hb hp4
 try replace hx := lists_low hx hb
 try replace hu1 := ints_low hu1 hb
 try replace hv1 := ints_low hv1 hb
 try replace hu2 := ints_low hu2 hb
 try replace hv2 := ints_low hv2 hb
 try replace hu3 := ints_low hu3 hb
 try replace hv3 := ints_low hv3 hb
 try replace hu4 := ints_low hu4 hb
 try replace hv4 := ints_low hv4 hb
 try replace hu5 := ints_low hu5 hb
 try replace hv5 := ints_low hv5 hb
 clear hb c0 c1
 have c0 := bO.cell 0 rfl
 have c1 := bO.cell 1 rfl
 refine (K5.out _ _ hp).mono ?_
 rintro e w8 ⟨rfl, hb⟩
 replace bO := bO.later hb
 replace hp := RecIn.below hb hp
 replace hl := ints_low hl hb
 replace hW := below2 hW hb
 replace hGl := hGl.later hb
 try replace hc := ints_low hc hb
 try replace hd := ints_low hd hb
 try replace bp := bp.later hb
 try replace bq := bq.later hb
 try replace br := br.later hb
 try replace bs := bs.later hb
 try replace hp1 := RecIn.below hb hp1
 try replace hp2 := RecIn.below hb hp2
 try replace hp3 := RecIn.below hb hp3
 try replace hp4 := RecIn.below hb hp4
 try replace hx := lists_low hx hb
 try replace hu1 := ints_low hu1 hb
 try replace hv1 := ints_low hv1 hb
 try replace hu2 := ints_low hu2 hb
 try replace hv2 := ints_low hv2 hb
 try replace hu3 := ints_low hu3 hb
 try replace hv3 := ints_low hv3 hb
 try replace hu4 := ints_low hu4 hb
 try replace hv4 := ints_low hv4 hb
 try replace hu5 := ints_low hu5 hb
 try replace hv5 := ints_low hv5 hb
 clear hb c0 c1
 have c0 := bO.cell 0 rfl
 have c1 := bO.cell 1 rfl
 go_wp2_with fail
 refine (K6.out _ _ hp).mono ?_
 rintro e w9 ⟨rfl, hb⟩
 replace bO := bO.later hb
 replace hp := RecIn.below hb hp
 replace hl := ints_low hl hb
 replace hW := below2 hW hb
 replace hGl := hGl.later hb
 try replace hc := ints_low hc hb
 try replace hd := ints_low hd hb
 try replace bp := bp.later hb
 try replace bq := bq.later hb
 try replace br := br.later hb
 try replace bs := bs.later hb
 try replace hp1 := RecIn.below hb hp1
 try replace hp2 := RecIn.below hb hp2
 try replace hp3 := RecIn.below hb hp3
 try replace hp4 := RecIn.below hb hp4
 try replace hx := lists_low hx hb
 try replace hu1 := ints_low hu1 hb
 try replace hv1 := ints_low hv1 hb
 try replace hu2 := ints_low hu2 hb
 try replace hv2 := ints_low hv2 hb
 try replace hu3 := ints_low hu3 hb
 try replace hv3 := ints_low hv3 hb
 try replace hu4 := ints_low hu4 hb
 try replace hv4 := ints_low hv4 hb
 try replace hu5 := ints_low hu5 hb
 try replace hv5 := ints_low hv5 hb
 clear hb c0 c1
 have c0 := bO.cell 0 rfl
 have c1 := bO.cell 1 rfl
 go_wp2_with fail
 refine (K7.out _ _ hp).mono ?_
 rintro e w10 ⟨v, rfl, hv, hb⟩
 have hx := lists_fr hv
 obtain ⟨xa, xc, rfl, -, -, -⟩ := id hx
 rw [HCL.out] at hx ⊢
 clear hv
 replace bO := bO.later hb
 replace hp := RecIn.below hb hp
 replace hl := ints_low hl hb
 replace hW := below2 hW hb
 replace hGl := hGl.later hb
 try replace hc := ints_low hc hb
 try replace hd := ints_low hd hb
 try replace bp := bp.later hb
 try replace bq := bq.later hb
 try replace br := br.later hb
 try replace bs := bs.later hb
 try replace hp1 := RecIn.below hb hp1
 try replace hp2 := RecIn.below hb hp2
 try replace hp3 := RecIn.below hb hp3
 try replace hp4 := RecIn.below hb hp4
 try replace hx := lists_low hx hb
 try replace hu1 := ints_low hu1 hb
 try replace hv1 := ints_low hv1 hb
 try replace hu2 := ints_low hu2 hb
 try replace hv2 := ints_low hv2 hb
 try replace hu3 := ints_low hu3 hb
 try replace hv3 := ints_low hv3 hb
 try replace hu4 := ints_low hu4 hb
 try replace hv4 := ints_low hv4 hb
 try replace hu5 := ints_low hu5 hb
 try replace hv5 := ints_low hv5 hb
 clear hb c0 c1
 have c0 := bO.cell 0 rfl
 have c1 := bO.cell 1 rfl
 go_wp2_with fail
 refine (K8.out _ _ hp).mono ?_
 rintro e w11 ⟨v, rfl, ⟨ya, yc, rfl, -⟩, hb⟩
 replace bO := bO.later hb
 replace hp := RecIn.below hb hp
 replace hl := ints_low hl hb
 replace hW := below2 hW hb
 replace hGl := hGl.later hb
 try replace hc := ints_low hc hb
 try replace hd := ints_low hd hb
 try replace bp := bp.later hb
 try replace bq := bq.later hb
 try replace br := br.later hb
 try replace bs := bs.later hb
 try replace hp1 := RecIn.below hb hp1
 try replace hp2 := RecIn.below hb hp2
 try replace hp3 := RecIn.below hb hp3
 try replace hp4 := RecIn.below hb hp4
 try replace hx := lists_low hx hb
 try replace hu1 := ints_low hu1 hb
 try replace hv1 := ints_low hv1 hb
 try replace hu2 := ints_low hu2 hb
 try replace hv2 := ints_low hv2 hb
 try replace hu3 := ints_low hu3 hb
 try replace hv3 := ints_low hv3 hb
 try replace hu4 := ints_low hu4 hb
 try replace hv4 := ints_low hv4 hb
 try replace hu5 := ints_low hu5 hb
 try replace hv5 := ints_low hv5 hb
 clear hb c0 c1
 have c0 := bO.cell 0 rfl
 have c1 := bO.cell 1 rfl
 have p0 := bp.cell 0 rfl
 have p1 := bp.cell 1 rfl
 have p2 := bq.cell 0 rfl
 have p3 := bq.cell 1 rfl
 have p4 := br.cell 0 rfl
 have p5 := br.cell 1 rfl
 have p6 := bs.cell 0 rfl
 have p7 := bs.cell 1 rfl
 go_wp2_with fail
 refine (same_any ⟨(n : Int), LO⟩ ⟨(n : Int), LO⟩ _ _ _ hp1 hp2).mono ?_
 rintro e w12 ⟨rfl, hb⟩
 rw [sameB_refl]
 replace bO := bO.later hb
 replace hp := RecIn.below hb hp
 replace hl := ints_low hl hb
 replace hW := below2 hW hb
 replace hGl := hGl.later hb
 try replace hc := ints_low hc hb
 try replace hd := ints_low hd hb
 try replace bp := bp.later hb
 try replace bq := bq.later hb
 try replace br := br.later hb
 try replace bs := bs.later hb
 try replace hp1 := RecIn.below hb hp1
 try replace hp2 := RecIn.below hb hp2
 try replace hp3 := RecIn.below hb hp3
 try replace hp4 := RecIn.below hb hp4
 try replace hx := lists_low hx hb
 try replace hu1 := ints_low hu1 hb
 try replace hv1 := ints_low hv1 hb
 try replace hu2 := ints_low hu2 hb
 try replace hv2 := ints_low hv2 hb
 try replace hu3 := ints_low hu3 hb
 try replace hv3 := ints_low hv3 hb
 try replace hu4 := ints_low hu4 hb
 try replace hv4 := ints_low hv4 hb
 try replace hu5 := ints_low hu5 hb
 try replace hv5 := ints_low hv5 hb
 clear hb c0 c1
 have c0 := bO.cell 0 rfl
 have c1 := bO.cell 1 rfl
 clear p0 p1 p2 p3 p4 p5 p6 p7
 have p0 := bp.cell 0 rfl
 have p1 := bp.cell 1 rfl
 have p2 := bq.cell 0 rfl
 have p3 := bq.cell 1 rfl
 have p4 := br.cell 0 rfl
 have p5 := br.cell 1 rfl
 have p6 := bs.cell 0 rfl
 have p7 := bs.cell 1 rfl
 go_wp2_with fail
 refine (same_any ⟨(n : Int), RO⟩ ⟨(n : Int), RO⟩ _ _ _ hp3 hp4).mono ?_
 rintro e w13 ⟨rfl, hb⟩
 rw [sameB_refl]
 replace bO := bO.later hb
 replace hp := RecIn.below hb hp
 replace hl := ints_low hl hb
 replace hW := below2 hW hb
 replace hGl := hGl.later hb
 try replace hc := ints_low hc hb
 try replace hd := ints_low hd hb
 try replace bp := bp.later hb
 try replace bq := bq.later hb
 try replace br := br.later hb
 try replace bs := bs.later hb
 try replace hp1 := RecIn.below hb hp1
 try replace hp2 := RecIn.below hb hp2
 try replace hp3 := RecIn.below hb hp3
 try replace hp4 := RecIn.below hb hp4
 try replace hx := lists_low hx hb
 try replace hu1 := ints_low hu1 hb
 try replace hv1 := ints_low hv1 hb
 try replace hu2 := ints_low hu2 hb
 try replace hv2 := ints_low hv2 hb
 try replace hu3 := ints_low hu3 hb
 try replace hv3 := ints_low hv3 hb
 try replace hu4 := ints_low hu4 hb
 try replace hv4 := ints_low hv4 hb
 try replace hu5 := ints_low hu5 hb
 try replace hv5 := ints_low hv5 hb
 clear hb c0 c1
 have c0 := bO.cell 0 rfl
 have c1 := bO.cell 1 rfl
 clear p0 p1 p2 p3 p4 p5 p6 p7
 go_wp2_with fail
 refine (KC.out _ _ _ hp hx).mono ?_
 rintro e w14 ⟨rfl, hb⟩
 replace bO := bO.later hb
 replace hp := RecIn.below hb hp
 replace hl := ints_low hl hb
 replace hW := below2 hW hb
 replace hGl := hGl.later hb
 try replace hc := ints_low hc hb
 try replace hd := ints_low hd hb
 try replace bp := bp.later hb
 try replace bq := bq.later hb
 try replace br := br.later hb
 try replace bs := bs.later hb
 try replace hp1 := RecIn.below hb hp1
 try replace hp2 := RecIn.below hb hp2
 try replace hp3 := RecIn.below hb hp3
 try replace hp4 := RecIn.below hb hp4
 try replace hx := lists_low hx hb
 try replace hu1 := ints_low hu1 hb
 try replace hv1 := ints_low hv1 hb
 try replace hu2 := ints_low hu2 hb
 try replace hv2 := ints_low hv2 hb
 try replace hu3 := ints_low hu3 hb
 try replace hv3 := ints_low hv3 hb
 try replace hu4 := ints_low hu4 hb
 try replace hv4 := ints_low hv4 hb
 try replace hu5 := ints_low hu5 hb
 try replace hv5 := ints_low hv5 hb
 clear hb c0 c1
 have c0 := bO.cell 0 rfl
 have c1 := bO.cell 1 rfl
 go_wp2_with fail
 refine ((K9).out _ _ hp).mono ?_
 rintro e w15 ⟨v, rfl, hv, hb⟩
 have hu1 := hv.at
 obtain ⟨ua15, uc15, rfl, -, -, -⟩ := id hu1
 clear hv
 replace bO := bO.later hb
 replace hp := RecIn.below hb hp
 replace hl := ints_low hl hb
 replace hW := below2 hW hb
 replace hGl := hGl.later hb
 try replace hc := ints_low hc hb
 try replace hd := ints_low hd hb
 try replace bp := bp.later hb
 try replace bq := bq.later hb
 try replace br := br.later hb
 try replace bs := bs.later hb
 try replace hp1 := RecIn.below hb hp1
 try replace hp2 := RecIn.below hb hp2
 try replace hp3 := RecIn.below hb hp3
 try replace hp4 := RecIn.below hb hp4
 try replace hx := lists_low hx hb
 try replace hu1 := ints_low hu1 hb
 try replace hv1 := ints_low hv1 hb
 try replace hu2 := ints_low hu2 hb
 try replace hv2 := ints_low hv2 hb
 try replace hu3 := ints_low hu3 hb
 try replace hv3 := ints_low hv3 hb
 try replace hu4 := ints_low hu4 hb
 try replace hv4 := ints_low hv4 hb
 try replace hu5 := ints_low hu5 hb
 try replace hv5 := ints_low hv5 hb
 clear hb c0 c1
 have c0 := bO.cell 0 rfl
 have c1 := bO.cell 1 rfl
 go_wp2_with fail
 refine ((K10).out _ _ hp).mono ?_
 rintro e w16 ⟨v, rfl, hv, hb⟩
 have hv1 := hv.at
 obtain ⟨ua16, uc16, rfl, -, -, -⟩ := id hv1
 clear hv
 replace bO := bO.later hb
 replace hp := RecIn.below hb hp
 replace hl := ints_low hl hb
 replace hW := below2 hW hb
 replace hGl := hGl.later hb
 try replace hc := ints_low hc hb
 try replace hd := ints_low hd hb
 try replace bp := bp.later hb
 try replace bq := bq.later hb
 try replace br := br.later hb
 try replace bs := bs.later hb
 try replace hp1 := RecIn.below hb hp1
 try replace hp2 := RecIn.below hb hp2
 try replace hp3 := RecIn.below hb hp3
 try replace hp4 := RecIn.below hb hp4
 try replace hx := lists_low hx hb
 try replace hu1 := ints_low hu1 hb
 try replace hv1 := ints_low hv1 hb
 try replace hu2 := ints_low hu2 hb
 try replace hv2 := ints_low hv2 hb
 try replace hu3 := ints_low hu3 hb
 try replace hv3 := ints_low hv3 hb
 try replace hu4 := ints_low hu4 hb
 try replace hv4 := ints_low hv4 hb
 try replace hu5 := ints_low hu5 hb
 try replace hv5 := ints_low hv5 hb
 clear hb c0 c1
 have c0 := bO.cell 0 rfl
 have c1 := bO.cell 1 rfl
 go_wp2_with fail
 refine ((K11).out _ _ hp).mono ?_
 rintro e w17 ⟨v, rfl, hv, hb⟩
 have hu2 := hv.at
 obtain ⟨ua17, uc17, rfl, -, -, -⟩ := id hu2
 clear hv
 replace bO := bO.later hb
 replace hp := RecIn.below hb hp
 replace hl := ints_low hl hb
 replace hW := below2 hW hb
 replace hGl := hGl.later hb
 try replace hc := ints_low hc hb
 try replace hd := ints_low hd hb
 try replace bp := bp.later hb
 try replace bq := bq.later hb
 try replace br := br.later hb
 try replace bs := bs.later hb
 try replace hp1 := RecIn.below hb hp1
 try replace hp2 := RecIn.below hb hp2
 try replace hp3 := RecIn.below hb hp3
 try replace hp4 := RecIn.below hb hp4
 try replace hx := lists_low hx hb
 try replace hu1 := ints_low hu1 hb
 try replace hv1 := ints_low hv1 hb
 try replace hu2 := ints_low hu2 hb
 try replace hv2 := ints_low hv2 hb
 try replace hu3 := ints_low hu3 hb
 try replace hv3 := ints_low hv3 hb
 try replace hu4 := ints_low hu4 hb
 try replace hv4 := ints_low hv4 hb
 try replace hu5 := ints_low hu5 hb
 try replace hv5 := ints_low hv5 hb
 clear hb c0 c1
 have c0 := bO.cell 0 rfl
 have c1 := bO.cell 1 rfl
 go_wp2_with fail
 refine ((K12).out _ _ hp).mono ?_
 rintro e w18 ⟨v, rfl, hv, hb⟩
 have hv2 := hv.at
 obtain ⟨ua18, uc18, rfl, -, -, -⟩ := id hv2
 clear hv
 replace bO := bO.later hb
 replace hp := RecIn.below hb hp
 replace hl := ints_low hl hb
 replace hW := below2 hW hb
 replace hGl := hGl.later hb
 try replace hc := ints_low hc hb
 try replace hd := ints_low hd hb
 try replace bp := bp.later hb
 try replace bq := bq.later hb
 try replace br := br.later hb
 try replace bs := bs.later hb
 try replace hp1 := RecIn.below hb hp1
 try replace hp2 := RecIn.below hb hp2
 try replace hp3 := RecIn.below hb hp3
 try replace hp4 := RecIn.below hb hp4
 try replace hx := lists_low hx hb
 try replace hu1 := ints_low hu1 hb
 try replace hv1 := ints_low hv1 hb
 try replace hu2 := ints_low hu2 hb
 try replace hv2 := ints_low hv2 hb
 try replace hu3 := ints_low hu3 hb
 try replace hv3 := ints_low hv3 hb
 try replace hu4 := ints_low hu4 hb
 try replace hv4 := ints_low hv4 hb
 try replace hu5 := ints_low hu5 hb
 try replace hv5 := ints_low hv5 hb
 clear hb c0 c1
 have c0 := bO.cell 0 rfl
 have c1 := bO.cell 1 rfl
 go_wp2_with fail
 refine ((K13).out _ _ hp).mono ?_
 rintro e w19 ⟨v, rfl, hv, hb⟩
 have hu3 := hv.at
 obtain ⟨ua19, uc19, rfl, -, -, -⟩ := id hu3
 clear hv
 replace bO := bO.later hb
 replace hp := RecIn.below hb hp
 replace hl := ints_low hl hb
 replace hW := below2 hW hb
 replace hGl := hGl.later hb
 try replace hc := ints_low hc hb
 try replace hd := ints_low hd hb
 try replace bp := bp.later hb
 try replace bq := bq.later hb
 try replace br := br.later hb
 try replace bs := bs.later hb
 try replace hp1 := RecIn.below hb hp1
 try replace hp2 := RecIn.below hb hp2
 try replace hp3 := RecIn.below hb hp3
 try replace hp4 := RecIn.below hb hp4
 try replace hx := lists_low hx hb
 try replace hu1 := ints_low hu1 hb
 try replace hv1 := ints_low hv1 hb
 try replace hu2 := ints_low hu2 hb
 try replace hv2 := ints_low hv2 hb
 try replace hu3 := ints_low hu3 hb
 try replace hv3 := ints_low hv3 hb
 try replace hu4 := ints_low hu4 hb
 try replace hv4 := ints_low hv4 hb
 try replace hu5 := ints_low hu5 hb
 try replace hv5 := ints_low hv5 hb
 clear hb c0 c1
 have c0 := bO.cell 0 rfl
 have c1 := bO.cell 1 rfl
 go_wp2_with fail
 refine ((K14).out _ _ hp).mono ?_
 rintro e w20 ⟨v, rfl, hv, hb⟩
 have hv3 := hv.at
 obtain ⟨ua20, uc20, rfl, -, -, -⟩ := id hv3
 clear hv
 replace bO := bO.later hb
 replace hp := RecIn.below hb hp
 replace hl := ints_low hl hb
 replace hW := below2 hW hb
 replace hGl := hGl.later hb
 try replace hc := ints_low hc hb
 try replace hd := ints_low hd hb
 try replace bp := bp.later hb
 try replace bq := bq.later hb
 try replace br := br.later hb
 try replace bs := bs.later hb
 try replace hp1 := RecIn.below hb hp1
 try replace hp2 := RecIn.below hb hp2
 try replace hp3 := RecIn.below hb hp3
 try replace hp4 := RecIn.below hb hp4
 try replace hx := lists_low hx hb
 try replace hu1 := ints_low hu1 hb
 try replace hv1 := ints_low hv1 hb
 try replace hu2 := ints_low hu2 hb
 try replace hv2 := ints_low hv2 hb
 try replace hu3 := ints_low hu3 hb
 try replace hv3 := ints_low hv3 hb
 try replace hu4 := ints_low hu4 hb
 try replace hv4 := ints_low hv4 hb
 try replace hu5 := ints_low hu5 hb
 try replace hv5 := ints_low hv5 hb
 clear hb c0 c1
 have c0 := bO.cell 0 rfl
 have c1 := bO.cell 1 rfl
 go_wp2_with fail
 refine ((K15).out _ _ hp).mono ?_
 rintro e w21 ⟨v, rfl, hv, hb⟩
 have hu4 := hv.at
 obtain ⟨ua21, uc21, rfl, -, -, -⟩ := id hu4
 clear hv
 replace bO := bO.later hb
 replace hp := RecIn.below hb hp
 replace hl := ints_low hl hb
 replace hW := below2 hW hb
 replace hGl := hGl.later hb
 try replace hc := ints_low hc hb
 try replace hd := ints_low hd hb
 try replace bp := bp.later hb
 try replace bq := bq.later hb
 try replace br := br.later hb
 try replace bs := bs.later hb
 try replace hp1 := RecIn.below hb hp1
 try replace hp2 := RecIn.below hb hp2
 try replace hp3 := RecIn.below hb hp3
 try replace hp4 := RecIn.below hb hp4
 try replace hx := lists_low hx hb
 try replace hu1 := ints_low hu1 hb
 try replace hv1 := ints_low hv1 hb
 try replace hu2 := ints_low hu2 hb
 try replace hv2 := ints_low hv2 hb
 try replace hu3 := ints_low hu3 hb
 try replace hv3 := ints_low hv3 hb
 try replace hu4 := ints_low hu4 hb
 try replace hv4 := ints_low hv4 hb
 try replace hu5 := ints_low hu5 hb
 try replace hv5 := ints_low hv5 hb
 clear hb c0 c1
 have c0 := bO.cell 0 rfl
 have c1 := bO.cell 1 rfl
 go_wp2_with fail
 refine ((K16).out _ _ hp).mono ?_
 rintro e w22 ⟨v, rfl, hv, hb⟩
 have hv4 := hv
 obtain ⟨ua22, uc22, rfl, -, -, -⟩ := id hv4
 clear hv
 replace bO := bO.later hb
 replace hp := RecIn.below hb hp
 replace hl := ints_low hl hb
 replace hW := below2 hW hb
 replace hGl := hGl.later hb
 try replace hc := ints_low hc hb
 try replace hd := ints_low hd hb
 try replace bp := bp.later hb
 try replace bq := bq.later hb
 try replace br := br.later hb
 try replace bs := bs.later hb
 try replace hp1 := RecIn.below hb hp1
 try replace hp2 := RecIn.below hb hp2
 try replace hp3 := RecIn.below hb hp3
 try replace hp4 := RecIn.below hb hp4
 try replace hx := lists_low hx hb
 try replace hu1 := ints_low hu1 hb
 try replace hv1 := ints_low hv1 hb
 try replace hu2 := ints_low hu2 hb
 try replace hv2 := ints_low hv2 hb
 try replace hu3 := ints_low hu3 hb
 try replace hv3 := ints_low hv3 hb
 try replace hu4 := ints_low hu4 hb
 try replace hv4 := ints_low hv4 hb
 try replace hu5 := ints_low hu5 hb
 try replace hv5 := ints_low hv5 hb
 clear hb c0 c1
 have c0 := bO.cell 0 rfl
 have c1 := bO.cell 1 rfl
 go_wp2_with fail
 refine (K17.out _ _ hGl hp).mono ?_
 rintro e w23 ⟨v, rfl, hv, hb⟩
 have hu5 := hv.at
 obtain ⟨ua23, uc23, rfl, -, -, -⟩ := id hu5
 clear hv
 replace bO := bO.later hb
 replace hp := RecIn.below hb hp
 replace hl := ints_low hl hb
 replace hW := below2 hW hb
 replace hGl := hGl.later hb
 try replace hc := ints_low hc hb
 try replace hd := ints_low hd hb
 try replace bp := bp.later hb
 try replace bq := bq.later hb
 try replace br := br.later hb
 try replace bs := bs.later hb
 try replace hp1 := RecIn.below hb hp1
 try replace hp2 := RecIn.below hb hp2
 try replace hp3 := RecIn.below hb hp3
 try replace hp4 := RecIn.below hb hp4
 try replace hx := lists_low hx hb
 try replace hu1 := ints_low hu1 hb
 try replace hv1 := ints_low hv1 hb
 try replace hu2 := ints_low hu2 hb
 try replace hv2 := ints_low hv2 hb
 try replace hu3 := ints_low hu3 hb
 try replace hv3 := ints_low hv3 hb
 try replace hu4 := ints_low hu4 hb
 try replace hv4 := ints_low hv4 hb
 try replace hu5 := ints_low hu5 hb
 try replace hv5 := ints_low hv5 hb
 clear hb c0 c1
 have c0 := bO.cell 0 rfl
 have c1 := bO.cell 1 rfl
 go_wp2_with fail
 refine ((K18).out _ _ hp).mono ?_
 rintro e w24 ⟨v, rfl, hv, hb⟩
 have hv5 := hv.at
 obtain ⟨ua24, uc24, rfl, -, -, -⟩ := id hv5
 clear hv
 replace bO := bO.later hb
 replace hp := RecIn.below hb hp
 replace hl := ints_low hl hb
 replace hW := below2 hW hb
 replace hGl := hGl.later hb
 try replace hc := ints_low hc hb
 try replace hd := ints_low hd hb
 try replace bp := bp.later hb
 try replace bq := bq.later hb
 try replace br := br.later hb
 try replace bs := bs.later hb
 try replace hp1 := RecIn.below hb hp1
 try replace hp2 := RecIn.below hb hp2
 try replace hp3 := RecIn.below hb hp3
 try replace hp4 := RecIn.below hb hp4
 try replace hx := lists_low hx hb
 try replace hu1 := ints_low hu1 hb
 try replace hv1 := ints_low hv1 hb
 try replace hu2 := ints_low hu2 hb
 try replace hv2 := ints_low hv2 hb
 try replace hu3 := ints_low hu3 hb
 try replace hv3 := ints_low hv3 hb
 try replace hu4 := ints_low hu4 hb
 try replace hv4 := ints_low hv4 hb
 try replace hu5 := ints_low hu5 hb
 try replace hv5 := ints_low hv5 hb
 clear hb c0 c1
 have c0 := bO.cell 0 rfl
 have c1 := bO.cell 1 rfl
 go_wp2_with fail
 refine (ints_any _ _ _ _ _ hu1 hv1).mono ?_
 rintro e w25 ⟨rfl, hb⟩
 rw [intsB_refl]
 replace bO := bO.later hb
 replace hp := RecIn.below hb hp
 replace hl := ints_low hl hb
 replace hW := below2 hW hb
 replace hGl := hGl.later hb
 try replace hc := ints_low hc hb
 try replace hd := ints_low hd hb
 try replace bp := bp.later hb
 try replace bq := bq.later hb
 try replace br := br.later hb
 try replace bs := bs.later hb
 try replace hp1 := RecIn.below hb hp1
 try replace hp2 := RecIn.below hb hp2
 try replace hp3 := RecIn.below hb hp3
 try replace hp4 := RecIn.below hb hp4
 try replace hx := lists_low hx hb
 try replace hu1 := ints_low hu1 hb
 try replace hv1 := ints_low hv1 hb
 try replace hu2 := ints_low hu2 hb
 try replace hv2 := ints_low hv2 hb
 try replace hu3 := ints_low hu3 hb
 try replace hv3 := ints_low hv3 hb
 try replace hu4 := ints_low hu4 hb
 try replace hv4 := ints_low hv4 hb
 try replace hu5 := ints_low hu5 hb
 try replace hv5 := ints_low hv5 hb
 clear hb c0 c1
 have c0 := bO.cell 0 rfl
 have c1 := bO.cell 1 rfl
 go_wp2_with fail
 refine (ints_any _ _ _ _ _ hu2 hv2).mono ?_
 rintro e w26 ⟨rfl, hb⟩
 rw [intsB_refl]
 replace bO := bO.later hb
 replace hp := RecIn.below hb hp
 replace hl := ints_low hl hb
 replace hW := below2 hW hb
 replace hGl := hGl.later hb
 try replace hc := ints_low hc hb
 try replace hd := ints_low hd hb
 try replace bp := bp.later hb
 try replace bq := bq.later hb
 try replace br := br.later hb
 try replace bs := bs.later hb
 try replace hp1 := RecIn.below hb hp1
 try replace hp2 := RecIn.below hb hp2
 try replace hp3 := RecIn.below hb hp3
 try replace hp4 := RecIn.below hb hp4
 try replace hx := lists_low hx hb
 try replace hu1 := ints_low hu1 hb
 try replace hv1 := ints_low hv1 hb
 try replace hu2 := ints_low hu2 hb
 try replace hv2 := ints_low hv2 hb
 try replace hu3 := ints_low hu3 hb
 try replace hv3 := ints_low hv3 hb
 try replace hu4 := ints_low hu4 hb
 try replace hv4 := ints_low hv4 hb
 try replace hu5 := ints_low hu5 hb
 try replace hv5 := ints_low hv5 hb
 clear hb c0 c1
 have c0 := bO.cell 0 rfl
 have c1 := bO.cell 1 rfl
 go_wp2_with fail
 refine (ints_any _ _ _ _ _ hu3 hv3).mono ?_
 rintro e w27 ⟨rfl, hb⟩
 rw [intsB_refl]
 replace bO := bO.later hb
 replace hp := RecIn.below hb hp
 replace hl := ints_low hl hb
 replace hW := below2 hW hb
 replace hGl := hGl.later hb
 try replace hc := ints_low hc hb
 try replace hd := ints_low hd hb
 try replace bp := bp.later hb
 try replace bq := bq.later hb
 try replace br := br.later hb
 try replace bs := bs.later hb
 try replace hp1 := RecIn.below hb hp1
 try replace hp2 := RecIn.below hb hp2
 try replace hp3 := RecIn.below hb hp3
 try replace hp4 := RecIn.below hb hp4
 try replace hx := lists_low hx hb
 try replace hu1 := ints_low hu1 hb
 try replace hv1 := ints_low hv1 hb
 try replace hu2 := ints_low hu2 hb
 try replace hv2 := ints_low hv2 hb
 try replace hu3 := ints_low hu3 hb
 try replace hv3 := ints_low hv3 hb
 try replace hu4 := ints_low hu4 hb
 try replace hv4 := ints_low hv4 hb
 try replace hu5 := ints_low hu5 hb
 try replace hv5 := ints_low hv5 hb
 clear hb c0 c1
 have c0 := bO.cell 0 rfl
 have c1 := bO.cell 1 rfl
 go_wp2_with fail
 refine (ints_any _ _ _ _ _ hu4 hv4).mono ?_
 rintro e w28 ⟨rfl, hb⟩
 rw [intsB_refl]
 replace bO := bO.later hb
 replace hp := RecIn.below hb hp
 replace hl := ints_low hl hb
 replace hW := below2 hW hb
 replace hGl := hGl.later hb
 try replace hc := ints_low hc hb
 try replace hd := ints_low hd hb
 try replace bp := bp.later hb
 try replace bq := bq.later hb
 try replace br := br.later hb
 try replace bs := bs.later hb
 try replace hp1 := RecIn.below hb hp1
 try replace hp2 := RecIn.below hb hp2
 try replace hp3 := RecIn.below hb hp3
 try replace hp4 := RecIn.below hb hp4
 try replace hx := lists_low hx hb
 try replace hu1 := ints_low hu1 hb
 try replace hv1 := ints_low hv1 hb
 try replace hu2 := ints_low hu2 hb
 try replace hv2 := ints_low hv2 hb
 try replace hu3 := ints_low hu3 hb
 try replace hv3 := ints_low hv3 hb
 try replace hu4 := ints_low hu4 hb
 try replace hv4 := ints_low hv4 hb
 try replace hu5 := ints_low hu5 hb
 try replace hv5 := ints_low hv5 hb
 clear hb c0 c1
 have c0 := bO.cell 0 rfl
 have c1 := bO.cell 1 rfl
 go_wp2_with fail
 refine (ints_any _ _ _ _ _ hu5 hv5).mono ?_
 rintro e w29 ⟨rfl, hb⟩
 rw [intsB_refl]
 replace hW := below2 hW hb
 go_wp2_with fail
 go_ret
 exact ⟨rfl, hW⟩
end Go.Proofs.YtnidcoinfmcffaaDoor
/- The walk of OrderMatchesReference. Conditions: how the arguments and the tables of math/bits lie in memory; that integers are of 64 bits. -/
namespace Go.Proofs.YtnidcoinfmcffaaDoor
open Go.RowKit
attribute [local go_sem] Oper.semAt_some
theorem made_split (n : Int) (xs : List (Int × Int)) (line : Int) : madeO n xs line = ⟨((looseN n : Nat) : Int), (madeO n xs line).pairs⟩ := rfl
theorem recin_take {c : Rd} {a : Option Addr} {n m k : Nat} {l : List (Int × Int)} (h : PairsIn c (.slice a n m) l) (hk : k ≤ l.length) : PairsIn c (.slice a k m) (l.take k) := by
 obtain ⟨a', m', e, h1, h2, h3⟩ := h
 obtain ⟨rfl, e2, rfl⟩ := Value.slice.inj e
 have hl : (l.take k).length = k := by rw [List.length_take]; omega
 refine ⟨a, m, by rw [hl], by omega, h2, fun i hi => ?_⟩
 rw [hl] at hi
 obtain ⟨b, o, e1, hc⟩ := h3 i (by omega)
 refine ⟨b, o, e1, fun j u hu => hc j u ?_⟩
 rw [List.getD_eq_getElem?_getD, List.getElem?_take_of_lt hi] at hu
 rw [List.getD_eq_getElem?_getD]; exact hu
theorem ints_take {c : Rd} {a : Option Addr} {n m k : Nat} {l : List Int} (h : IntsIn c (.slice a n m) l) (hk : k ≤ l.length) : IntsIn c (.slice a k m) (l.take k) := by
 obtain ⟨a', m', e, h1, h2, h3⟩ := h
 obtain ⟨rfl, e2, rfl⟩ := Value.slice.inj e
 have hl : (l.take k).length = k := by rw [List.length_take]; omega
 refine ⟨a, m, by rw [hl], by omega, h2, fun i hi => ?_⟩
 rw [hl] at hi
 obtain ⟨b, o, e1, hc⟩ := h3 i (by omega)
 refine ⟨b, o, e1, ?_⟩
 rw [List.getD_eq_getElem?_getD, List.getElem?_take_of_lt hi, ← List.getD_eq_getElem?_getD]; exact hc
theorem agree_any (o : OrderD) (pv lv : Value) (l : List Int) (a b : Int) (w : World) (hp : PairsIn w.cell? pv o.pairs) (hl : IntsIn w.cell? lv l) (hGl : Glob w) : Calls Tryd.prog 15 #[orderV o.n pv, lv, .int .i64 a, .int .i64 b] w (Ret (.bool true) w) := by
 cases hv : validO o with
 | false => exact agree_no o pv lv l a b w hp hl hGl hv
 | true =>
  obtain ⟨on, ps⟩ := o
  have hF : formedO ⟨on, ps⟩ = true := by unfold validO at hv; rw [Bool.and_eq_true] at hv; exact hv.1
  have h0 := (formed_n hF).1.1
  simp only at h0
  obtain ⟨n, rfl⟩ : ∃ n : Nat, on = n := ⟨on.toNat, by omega⟩
  exact agree_yes n ps pv lv l a b w hp hl hGl hv
set_option maxRecDepth 100000 in
set_option maxHeartbeats 4000000 in
theorem omr_any (n : Int) (xs : List (Int × Int)) (xv : Value) (line b0 b1 b2 : Int) (raw : OrderD) (rv lv : Value) (ls : List Int) (a b : Int) (w : World) (hn : i64B n) (hx : PairsIn w.cell? xv xs) (h64 : ∀ p ∈ xs, i64B p.1 ∧ i64B p.2) (hl : i64B line) (hb0 : i64B b0) (hb1 : i64B b1) (hb2 : i64B b2) (hr : PairsIn w.cell? rv raw.pairs) (hi : IntsIn w.cell? lv ls) (ha : i64B a) (hb : i64B b) (hGl : Glob w) :
  Calls Tryd.prog 3 #[.int .i64 n, xv, .int .i64 line, .agg #[.int .i64 b0, .int .i64 b1, .int .i64 b2], orderV raw.n rv, lv, .int .i64 a, .int .i64 b] w (Ret (.bool true) w) := by
 have HLO := hide (fun W (hb : Below w.heap.size w W) => loose_any n xs xv W hn (RecIn.below hb hx) h64)
 have HMD := hide (fun W (hb : Below w.heap.size w W) => made_any n xs line xv W hn hl (RecIn.below hb hx) h64)
 have hN8 := looseN_le n
 have hvd := made_valid n xs line
 rw [made_split] at hvd
 have hpl := made_len n xs line
 generalize (madeO n xs line).pairs = ps at *
 generalize looseN n = N at *
 have HPO := hide (show PoO N (beforeO ⟨(N : Int), ps⟩) from before_po hvd)
 have HVD := hide hvd
 obtain ⟨xa, xc, rfl, -, -, -⟩ := id hx
 clear hx h64 hn hl hvd
 have HBN := hide (fun pv W (h : PairsIn W.cell? pv ps) => rbent_any (N : Int) ps pv b0 b1 b2 W h (by omega) hb0 hb1 hb2)
 have HPA := hide (fun W => pickl_any a 8 W ha (by decide) (by decide))
 have HPB := hide (fun W => pickl_any b 8 W hb (by decide) (by decide))
 have HLY := hide (fun pv W hp => rline_yes N ps pv W hp HVD.out)
 have HRW := hide hr
 have HIW := hide hi
 have HGL0 := hide hGl
 obtain ⟨rn, rps⟩ := raw
 obtain ⟨ra, rc, rfl, hr1, hr2, -⟩ := id hr
 obtain ⟨la, lc, rfl, hl1, hl2, -⟩ := id hi
 clear hr hi hGl hb0 hb1 hb2 ha hb
 go_enter Tryd.func3, Tryd.ntmps3
 go_wp2_with fail
 generalize hX1 : World.alloc w _ = X1
 have zX1 : X1.heap.size = w.heap.size + 1 := by rw [← hX1]; simp
 have bX1 : Below w.heap.size w X1 := by rw [← hX1]; exact bal w _
 have b3_1 : Blk X1 (w.heap.size) [.int .i64 b0, .int .i64 b1, .int .i64 b2] 23 := by rw [← hX1]; exact Blk.newA w _ (by first | rfl | simp)
 generalize hX2 : World.alloc X1 _ = X2
 have zX2 : X2.heap.size = w.heap.size + 1 + 1 := by rw [← hX2]; simp [zX1]
 have bX2 : Below X1.heap.size X1 X2 := by rw [← hX2]; exact bal X1 _
 have bR : Blk X2 (w.heap.size + 1) [.int .i64 rn, .slice ra rps.length rc] 25 := by rw [← hX2, ← zX1]; exact Blk.newA X1 _ (by first | rfl | simp)
 have b3 := b3_1.later bX2
 have Xb := below2 (bX1) bX2
 have Xz := zX2
 clear hX1 zX1 bX1 hX2 zX2 bX2 b3_1
 refine (sane_any _ (HGL0.out.later Xb)).mono ?_
 rintro e w1 ⟨rfl, hb1⟩
 have hW := below2 Xb hb1
 have B3 := b3.later hb1
 have BR := bR.later hb1
 clear Xb Xz b3 bR hb1
 go_wp2_with fail
 refine (HMD.out _ hW).mono ?_
 rintro e w2 ⟨pv, rfl, hO, hb2⟩
 have hp2 : PairsIn w2.cell? pv ps := RecIn.at (RecIn.of_own hO (fun _ => rfl) (Nat.le_refl _))
 obtain ⟨pa, pc, rfl⟩ := OwnR.formE hO
 rw [List.length_map] at hp2 ⊢
 have hW2 := below2 hW hb2
 replace B3 := B3.later hb2
 replace BR := BR.later hb2
 clear hO hb2 hW HMD
 go_upto_region 5 with (fail)
 generalize hY1 : World.alloc w2 _ = Y1
 have zY1 : Y1.heap.size = w2.heap.size + 1 := by rw [← hY1]; simp
 have bY1 : Below w2.heap.size w2 Y1 := by rw [← hY1]; exact bal w2 _
 have bP : Blk Y1 (w2.heap.size) [.int .i64 (N : Nat), .slice pa ps.length pc] 25 := by rw [← hY1]; exact Blk.newA w2 _ (by first | rfl | simp)
 have Yb := bY1
 have Yz := zY1
 clear hY1 zY1 bY1
 have hpY := RecIn.below Yb hp2
 have hWY := below2 hW2 Yb
 replace B3 := B3.later Yb
 replace BR := BR.later Yb
 obtain ⟨q, hq30, hql, hqm1, hqm2⟩ : ∃ q : Nat, q ≤ 30 ∧ q ≤ rps.length ∧ (if (30 : Int) < (rps.length : Int) then (30 : Int) else (rps.length : Int)) = (q : Int) ∧ (if 30 < rps.length then (30 : Int) else (rps.length : Int)) = (q : Int) := by
  by_cases h : 30 < rps.length
  ·exact ⟨30, by omega, by omega, by rw [if_pos (by omega)]; rfl, by rw [if_pos h]; rfl⟩
  ·exact ⟨rps.length, by omega, by omega, by rw [if_neg (by omega)], by rw [if_neg h]⟩
 obtain ⟨k9, hk9, hkl, hkm1, hkm2⟩ : ∃ q : Nat, q ≤ 9 ∧ q ≤ ls.length ∧ (if (9 : Int) < (ls.length : Int) then (9 : Int) else (ls.length : Int)) = (q : Int) ∧ (if 9 < ls.length then (9 : Int) else (ls.length : Int)) = (q : Int) := by
  by_cases h : 9 < ls.length
  ·exact ⟨9, by omega, by omega, by rw [if_pos (by omega)]; rfl, by rw [if_pos h]; rfl⟩
  ·exact ⟨ls.length, by omega, by omega, by rw [if_neg (by omega)], by rw [if_neg h]⟩
 have hqc : q ≤ rc := by omega
 have hqcI : (q : Int) ≤ rc := by omega
 have hkc : k9 ≤ lc := by omega
 have hkcI : (k9 : Int) ≤ lc := by omega
 have r0 := BR.cell 0 rfl
 have r1 := BR.cell 1 rfl
 have BRH := hide BR
 clear r0 r1
 refine wp_region_inv [some 31, some 32, some 33, some 34, some 35, some 36, some 37, some 38, some 39, some 40, some 19, none] (fun L vs W => match vs with | [x0, x1, x2, x3, x4, x5, x6, x7, x8, x9, x10, x11] => (Below Y1.heap.size Y1 W) ∧ (L 0 = true → x0 = .pointer (some ⟨w.heap.size + 1, 0, none⟩)) ∧ (L 1 = true → x1 = .int .i64 rn) ∧ (L 2 = true → x2 = .pointer (some ⟨w.heap.size + 1, 1, none⟩)) ∧ (L 3 = true → x3 = .slice ra rps.length rc) ∧ (L 4 = true → x4 = .pointer (some ⟨w.heap.size + 1, 1, none⟩)) ∧ (L 5 = true → x5 = .slice ra rps.length rc) ∧ (L 6 = true → x6 = .int .i64 (rps.length : Nat)) ∧ (L 7 = true → x7 = .int .i64 (q : Nat)) ∧ (L 8 = true → x8 = .slice ra q rc) ∧ (L 9 = true → x9 = .agg #[.int .i64 rn, .slice ra q rc]) ∧ (L 10 = true → (L 11 = false → ∃ b0 : Nat, Y1.heap.size ≤ b0 ∧ x10 = .pointer (some ⟨b0, 0, none⟩) ∧ Blk W b0 [.int .i64 0, .slice none 0 0] 25)) ∧ (L 11 = true → L 10 = true ∧ ∃ b0 : Nat, x10 = .pointer (some ⟨b0, 0, none⟩) ∧ Blk W b0 [.int .i64 rn, .slice ra q rc] 25) | _ => False) [_, _, _, _, _, _, _, _, _, _, _, undef] (by kernel_rfl) (by kernel_rfl) rfl (by simp only [puts, Act.put, List.setIfInBounds_toArray, List.set_cons_zero, List.set_cons_succ] <;> rfl) ?_ ?_ ?_
 ·exact ⟨(Below.refl _ _).drew, (fun h => by cases h), (fun h => by cases h), (fun h => by cases h), (fun h => by cases h), (fun h => by cases h), (fun h => by cases h), (fun h => by cases h), (fun h => by cases h), (fun h => by cases h), (fun h => by cases h), (fun h => by cases h), (fun h => by cases h)⟩
 ·refine ⟨?_, ?_, ?_, ?_, ?_, ?_, ?_, ?_, ?_, ?_, ?_, ?_, trivial⟩
  ·intro L vs W hlen hL hD hI K hK
   obtain ⟨x0, x1, x2, x3, x4, x5, x6, x7, x8, x9, x10, x11, rfl⟩ := len12 hlen
   have hG := hI.1
   replace hI := hI.2
   have f0 := hide hI.1
   replace hI := hI.2
   have f1 := hide hI.1
   replace hI := hI.2
   have f2 := hide hI.1
   replace hI := hI.2
   have f3 := hide hI.1
   replace hI := hI.2
   have f4 := hide hI.1
   replace hI := hI.2
   have f5 := hide hI.1
   replace hI := hI.2
   have f6 := hide hI.1
   replace hI := hI.2
   have f7 := hide hI.1
   replace hI := hI.2
   have f8 := hide hI.1
   replace hI := hI.2
   have f9 := hide hI.1
   replace hI := hI.2
   have f10 := hide hI.1
   replace hI := hI.2
   have f11 := hide hI
   clear hI
   try simp only [puts, Act.put, List.setIfInBounds_toArray, List.set_cons_zero, List.set_cons_succ]
   try go_simp
   exact hK.out _ _ _ (by simp only [puts, Act.put, List.setIfInBounds_toArray, List.set_cons_zero, List.set_cons_succ] <;> rfl) ⟨hG, (fun _ => rfl), (fun h => f1.out h), (fun h => f2.out h), (fun h => f3.out h), (fun h => f4.out h), (fun h => f5.out h), (fun h => f6.out h), (fun h => f7.out h), (fun h => f8.out h), (fun h => f9.out h), (fun h => f10.out h), (fun h => f11.out h)⟩
  ·intro L vs W hlen hL hD hI K hK
   obtain ⟨x0, x1, x2, x3, x4, x5, x6, x7, x8, x9, x10, x11, rfl⟩ := len12 hlen
   have hG := hI.1
   replace hI := hI.2
   have f0 := hide hI.1
   replace hI := hI.2
   have f1 := hide hI.1
   replace hI := hI.2
   have f2 := hide hI.1
   replace hI := hI.2
   have f3 := hide hI.1
   replace hI := hI.2
   have f4 := hide hI.1
   replace hI := hI.2
   have f5 := hide hI.1
   replace hI := hI.2
   have f6 := hide hI.1
   replace hI := hI.2
   have f7 := hide hI.1
   replace hI := hI.2
   have f8 := hide hI.1
   replace hI := hI.2
   have f9 := hide hI.1
   replace hI := hI.2
   have f10 := hide hI.1
   replace hI := hI.2
   have f11 := hide hI
   clear hI
   obtain rfl := f0.out (hD.on 0 (by kernel_rfl))
   try simp only [puts, Act.put, List.setIfInBounds_toArray, List.set_cons_zero, List.set_cons_succ]
   have z0 := (BRH.out.later hG).cell 0 rfl
   go_simp
   exact hK.out _ _ _ (by simp only [puts, Act.put, List.setIfInBounds_toArray, List.set_cons_zero, List.set_cons_succ] <;> rfl) ⟨hG, (fun h => f0.out h), (fun _ => rfl), (fun h => f2.out h), (fun h => f3.out h), (fun h => f4.out h), (fun h => f5.out h), (fun h => f6.out h), (fun h => f7.out h), (fun h => f8.out h), (fun h => f9.out h), (fun h => f10.out h), (fun h => f11.out h)⟩
  ·intro L vs W hlen hL hD hI K hK
   obtain ⟨x0, x1, x2, x3, x4, x5, x6, x7, x8, x9, x10, x11, rfl⟩ := len12 hlen
   have hG := hI.1
   replace hI := hI.2
   have f0 := hide hI.1
   replace hI := hI.2
   have f1 := hide hI.1
   replace hI := hI.2
   have f2 := hide hI.1
   replace hI := hI.2
   have f3 := hide hI.1
   replace hI := hI.2
   have f4 := hide hI.1
   replace hI := hI.2
   have f5 := hide hI.1
   replace hI := hI.2
   have f6 := hide hI.1
   replace hI := hI.2
   have f7 := hide hI.1
   replace hI := hI.2
   have f8 := hide hI.1
   replace hI := hI.2
   have f9 := hide hI.1
   replace hI := hI.2
   have f10 := hide hI.1
   replace hI := hI.2
   have f11 := hide hI
   clear hI
   try simp only [puts, Act.put, List.setIfInBounds_toArray, List.set_cons_zero, List.set_cons_succ]
   try go_simp
   exact hK.out _ _ _ (by simp only [puts, Act.put, List.setIfInBounds_toArray, List.set_cons_zero, List.set_cons_succ] <;> rfl) ⟨hG, (fun h => f0.out h), (fun h => f1.out h), (fun _ => rfl), (fun h => f3.out h), (fun h => f4.out h), (fun h => f5.out h), (fun h => f6.out h), (fun h => f7.out h), (fun h => f8.out h), (fun h => f9.out h), (fun h => f10.out h), (fun h => f11.out h)⟩
  ·intro L vs W hlen hL hD hI K hK
   obtain ⟨x0, x1, x2, x3, x4, x5, x6, x7, x8, x9, x10, x11, rfl⟩ := len12 hlen
   have hG := hI.1
   replace hI := hI.2
   have f0 := hide hI.1
   replace hI := hI.2
   have f1 := hide hI.1
   replace hI := hI.2
   have f2 := hide hI.1
   replace hI := hI.2
   have f3 := hide hI.1
   replace hI := hI.2
   have f4 := hide hI.1
   replace hI := hI.2
   have f5 := hide hI.1
   replace hI := hI.2
   have f6 := hide hI.1
   replace hI := hI.2
   have f7 := hide hI.1
   replace hI := hI.2
   have f8 := hide hI.1
   replace hI := hI.2
   have f9 := hide hI.1
   replace hI := hI.2
   have f10 := hide hI.1
   replace hI := hI.2
   have f11 := hide hI
   clear hI
   obtain rfl := f2.out (hD.on 2 (by kernel_rfl))
   try simp only [puts, Act.put, List.setIfInBounds_toArray, List.set_cons_zero, List.set_cons_succ]
   have z0 := (BRH.out.later hG).cell 1 rfl
   go_simp
   exact hK.out _ _ _ (by simp only [puts, Act.put, List.setIfInBounds_toArray, List.set_cons_zero, List.set_cons_succ] <;> rfl) ⟨hG, (fun h => f0.out h), (fun h => f1.out h), (fun h => f2.out h), (fun _ => rfl), (fun h => f4.out h), (fun h => f5.out h), (fun h => f6.out h), (fun h => f7.out h), (fun h => f8.out h), (fun h => f9.out h), (fun h => f10.out h), (fun h => f11.out h)⟩
  ·intro L vs W hlen hL hD hI K hK
   obtain ⟨x0, x1, x2, x3, x4, x5, x6, x7, x8, x9, x10, x11, rfl⟩ := len12 hlen
   have hG := hI.1
   replace hI := hI.2
   have f0 := hide hI.1
   replace hI := hI.2
   have f1 := hide hI.1
   replace hI := hI.2
   have f2 := hide hI.1
   replace hI := hI.2
   have f3 := hide hI.1
   replace hI := hI.2
   have f4 := hide hI.1
   replace hI := hI.2
   have f5 := hide hI.1
   replace hI := hI.2
   have f6 := hide hI.1
   replace hI := hI.2
   have f7 := hide hI.1
   replace hI := hI.2
   have f8 := hide hI.1
   replace hI := hI.2
   have f9 := hide hI.1
   replace hI := hI.2
   have f10 := hide hI.1
   replace hI := hI.2
   have f11 := hide hI
   clear hI
   try simp only [puts, Act.put, List.setIfInBounds_toArray, List.set_cons_zero, List.set_cons_succ]
   try go_simp
   exact hK.out _ _ _ (by simp only [puts, Act.put, List.setIfInBounds_toArray, List.set_cons_zero, List.set_cons_succ] <;> rfl) ⟨hG, (fun h => f0.out h), (fun h => f1.out h), (fun h => f2.out h), (fun h => f3.out h), (fun _ => rfl), (fun h => f5.out h), (fun h => f6.out h), (fun h => f7.out h), (fun h => f8.out h), (fun h => f9.out h), (fun h => f10.out h), (fun h => f11.out h)⟩
  ·intro L vs W hlen hL hD hI K hK
   obtain ⟨x0, x1, x2, x3, x4, x5, x6, x7, x8, x9, x10, x11, rfl⟩ := len12 hlen
   have hG := hI.1
   replace hI := hI.2
   have f0 := hide hI.1
   replace hI := hI.2
   have f1 := hide hI.1
   replace hI := hI.2
   have f2 := hide hI.1
   replace hI := hI.2
   have f3 := hide hI.1
   replace hI := hI.2
   have f4 := hide hI.1
   replace hI := hI.2
   have f5 := hide hI.1
   replace hI := hI.2
   have f6 := hide hI.1
   replace hI := hI.2
   have f7 := hide hI.1
   replace hI := hI.2
   have f8 := hide hI.1
   replace hI := hI.2
   have f9 := hide hI.1
   replace hI := hI.2
   have f10 := hide hI.1
   replace hI := hI.2
   have f11 := hide hI
   clear hI
   obtain rfl := f4.out (hD.on 4 (by kernel_rfl))
   try simp only [puts, Act.put, List.setIfInBounds_toArray, List.set_cons_zero, List.set_cons_succ]
   have z0 := (BRH.out.later hG).cell 1 rfl
   go_simp
   exact hK.out _ _ _ (by simp only [puts, Act.put, List.setIfInBounds_toArray, List.set_cons_zero, List.set_cons_succ] <;> rfl) ⟨hG, (fun h => f0.out h), (fun h => f1.out h), (fun h => f2.out h), (fun h => f3.out h), (fun h => f4.out h), (fun _ => rfl), (fun h => f6.out h), (fun h => f7.out h), (fun h => f8.out h), (fun h => f9.out h), (fun h => f10.out h), (fun h => f11.out h)⟩
  ·intro L vs W hlen hL hD hI K hK
   obtain ⟨x0, x1, x2, x3, x4, x5, x6, x7, x8, x9, x10, x11, rfl⟩ := len12 hlen
   have hG := hI.1
   replace hI := hI.2
   have f0 := hide hI.1
   replace hI := hI.2
   have f1 := hide hI.1
   replace hI := hI.2
   have f2 := hide hI.1
   replace hI := hI.2
   have f3 := hide hI.1
   replace hI := hI.2
   have f4 := hide hI.1
   replace hI := hI.2
   have f5 := hide hI.1
   replace hI := hI.2
   have f6 := hide hI.1
   replace hI := hI.2
   have f7 := hide hI.1
   replace hI := hI.2
   have f8 := hide hI.1
   replace hI := hI.2
   have f9 := hide hI.1
   replace hI := hI.2
   have f10 := hide hI.1
   replace hI := hI.2
   have f11 := hide hI
   clear hI
   obtain rfl := f5.out (hD.on 5 (by kernel_rfl))
   try simp only [puts, Act.put, List.setIfInBounds_toArray, List.set_cons_zero, List.set_cons_succ]
   try go_simp
   exact hK.out _ _ _ (by simp only [puts, Act.put, List.setIfInBounds_toArray, List.set_cons_zero, List.set_cons_succ] <;> rfl) ⟨hG, (fun h => f0.out h), (fun h => f1.out h), (fun h => f2.out h), (fun h => f3.out h), (fun h => f4.out h), (fun h => f5.out h), (fun _ => rfl), (fun h => f7.out h), (fun h => f8.out h), (fun h => f9.out h), (fun h => f10.out h), (fun h => f11.out h)⟩
  ·intro L vs W hlen hL hD hI K hK
   obtain ⟨x0, x1, x2, x3, x4, x5, x6, x7, x8, x9, x10, x11, rfl⟩ := len12 hlen
   have hG := hI.1
   replace hI := hI.2
   have f0 := hide hI.1
   replace hI := hI.2
   have f1 := hide hI.1
   replace hI := hI.2
   have f2 := hide hI.1
   replace hI := hI.2
   have f3 := hide hI.1
   replace hI := hI.2
   have f4 := hide hI.1
   replace hI := hI.2
   have f5 := hide hI.1
   replace hI := hI.2
   have f6 := hide hI.1
   replace hI := hI.2
   have f7 := hide hI.1
   replace hI := hI.2
   have f8 := hide hI.1
   replace hI := hI.2
   have f9 := hide hI.1
   replace hI := hI.2
   have f10 := hide hI.1
   replace hI := hI.2
   have f11 := hide hI
   clear hI
   obtain rfl := f6.out (hD.on 6 (by kernel_rfl))
   try simp only [puts, Act.put, List.setIfInBounds_toArray, List.set_cons_zero, List.set_cons_succ]
   try go_simp
   exact hK.out _ _ _ (by simp only [puts, Act.put, List.setIfInBounds_toArray, List.set_cons_zero, List.set_cons_succ] <;> rfl) ⟨hG, (fun h => f0.out h), (fun h => f1.out h), (fun h => f2.out h), (fun h => f3.out h), (fun h => f4.out h), (fun h => f5.out h), (fun h => f6.out h), (fun _ => rfl), (fun h => f8.out h), (fun h => f9.out h), (fun h => f10.out h), (fun h => f11.out h)⟩
  ·intro L vs W hlen hL hD hI K hK
   obtain ⟨x0, x1, x2, x3, x4, x5, x6, x7, x8, x9, x10, x11, rfl⟩ := len12 hlen
   have hG := hI.1
   replace hI := hI.2
   have f0 := hide hI.1
   replace hI := hI.2
   have f1 := hide hI.1
   replace hI := hI.2
   have f2 := hide hI.1
   replace hI := hI.2
   have f3 := hide hI.1
   replace hI := hI.2
   have f4 := hide hI.1
   replace hI := hI.2
   have f5 := hide hI.1
   replace hI := hI.2
   have f6 := hide hI.1
   replace hI := hI.2
   have f7 := hide hI.1
   replace hI := hI.2
   have f8 := hide hI.1
   replace hI := hI.2
   have f9 := hide hI.1
   replace hI := hI.2
   have f10 := hide hI.1
   replace hI := hI.2
   have f11 := hide hI
   clear hI
   obtain rfl := f3.out (hD.on 3 (by kernel_rfl))
   obtain rfl := f7.out (hD.on 7 (by kernel_rfl))
   try simp only [puts, Act.put, List.setIfInBounds_toArray, List.set_cons_zero, List.set_cons_succ]
   try go_simp
   exact hK.out _ _ _ (by simp only [puts, Act.put, List.setIfInBounds_toArray, List.set_cons_zero, List.set_cons_succ] <;> rfl) ⟨hG, (fun h => f0.out h), (fun h => f1.out h), (fun h => f2.out h), (fun h => f3.out h), (fun h => f4.out h), (fun h => f5.out h), (fun h => f6.out h), (fun h => f7.out h), (fun _ => rfl), (fun h => f9.out h), (fun h => f10.out h), (fun h => f11.out h)⟩
  ·intro L vs W hlen hL hD hI K hK
   obtain ⟨x0, x1, x2, x3, x4, x5, x6, x7, x8, x9, x10, x11, rfl⟩ := len12 hlen
   have hG := hI.1
   replace hI := hI.2
   have f0 := hide hI.1
   replace hI := hI.2
   have f1 := hide hI.1
   replace hI := hI.2
   have f2 := hide hI.1
   replace hI := hI.2
   have f3 := hide hI.1
   replace hI := hI.2
   have f4 := hide hI.1
   replace hI := hI.2
   have f5 := hide hI.1
   replace hI := hI.2
   have f6 := hide hI.1
   replace hI := hI.2
   have f7 := hide hI.1
   replace hI := hI.2
   have f8 := hide hI.1
   replace hI := hI.2
   have f9 := hide hI.1
   replace hI := hI.2
   have f10 := hide hI.1
   replace hI := hI.2
   have f11 := hide hI
   clear hI
   obtain rfl := f1.out (hD.on 1 (by kernel_rfl))
   obtain rfl := f8.out (hD.on 8 (by kernel_rfl))
   try simp only [puts, Act.put, List.setIfInBounds_toArray, List.set_cons_zero, List.set_cons_succ]
   try go_simp
   exact hK.out _ _ _ (by simp only [puts, Act.put, List.setIfInBounds_toArray, List.set_cons_zero, List.set_cons_succ] <;> rfl) ⟨hG, (fun h => f0.out h), (fun h => f1.out h), (fun h => f2.out h), (fun h => f3.out h), (fun h => f4.out h), (fun h => f5.out h), (fun h => f6.out h), (fun h => f7.out h), (fun h => f8.out h), (fun _ => rfl), (fun h => f10.out h), (fun h => f11.out h)⟩
  ·intro L vs W hlen hL hD hI K hK
   obtain ⟨x0, x1, x2, x3, x4, x5, x6, x7, x8, x9, x10, x11, rfl⟩ := len12 hlen
   have hG := hI.1
   replace hI := hI.2
   have f0 := hide hI.1
   replace hI := hI.2
   have f1 := hide hI.1
   replace hI := hI.2
   have f2 := hide hI.1
   replace hI := hI.2
   have f3 := hide hI.1
   replace hI := hI.2
   have f4 := hide hI.1
   replace hI := hI.2
   have f5 := hide hI.1
   replace hI := hI.2
   have f6 := hide hI.1
   replace hI := hI.2
   have f7 := hide hI.1
   replace hI := hI.2
   have f8 := hide hI.1
   replace hI := hI.2
   have f9 := hide hI.1
   replace hI := hI.2
   have f10 := hide hI.1
   replace hI := hI.2
   have f11 := hide hI
   clear hI
   try simp only [puts, Act.put, List.setIfInBounds_toArray, List.set_cons_zero, List.set_cons_succ]
   try go_simp
   generalize hW' : World.alloc W _ = W'
   have hb : Below W.heap.size W W' := by rw [← hW']; exact bal W _
   exact hK.out _ _ _ (by simp only [puts, Act.put, List.setIfInBounds_toArray, List.set_cons_zero, List.set_cons_succ] <;> rfl) ⟨below2 hG hb, (fun h => f0.out h), (fun h => f1.out h), (fun h => f2.out h), (fun h => f3.out h), (fun h => f4.out h), (fun h => f5.out h), (fun h => f6.out h), (fun h => f7.out h), (fun h => f8.out h), (fun h => f9.out h), (fun _ => fun _ => ⟨W.heap.size, hG.size, rfl, by rw [← hW']; exact Blk.newA W _ rfl⟩), (fun h => (fun h => absurd (h.1.symm.trans hL) (by decide)) (f11.out h))⟩
  ·intro L vs W hlen hL hD hI K hK
   obtain ⟨x0, x1, x2, x3, x4, x5, x6, x7, x8, x9, x10, x11, rfl⟩ := len12 hlen
   have hG := hI.1
   replace hI := hI.2
   have f0 := hide hI.1
   replace hI := hI.2
   have f1 := hide hI.1
   replace hI := hI.2
   have f2 := hide hI.1
   replace hI := hI.2
   have f3 := hide hI.1
   replace hI := hI.2
   have f4 := hide hI.1
   replace hI := hI.2
   have f5 := hide hI.1
   replace hI := hI.2
   have f6 := hide hI.1
   replace hI := hI.2
   have f7 := hide hI.1
   replace hI := hI.2
   have f8 := hide hI.1
   replace hI := hI.2
   have f9 := hide hI.1
   replace hI := hI.2
   have f10 := hide hI.1
   replace hI := hI.2
   have f11 := hide hI
   clear hI
   obtain rfl := f9.out (hD.on 9 (by kernel_rfl))
   have g10 := f10.out (hD.on 10 (by kernel_rfl))
   try simp only [puts, Act.put, List.setIfInBounds_toArray, List.set_cons_zero, List.set_cons_succ]
   obtain ⟨b0, h0, rfl, hB0⟩ := g10 hL
   have z0 := hB0.cell 0 rfl
   have z1 := hB0.cell 1 rfl
   have zf0 := hB0.frozen 0
   have zf1 := hB0.frozen 1
   go_simp
   have hb : True := trivial
   exact hK.out _ undef _ (by simp only [puts, Act.put, List.setIfInBounds_toArray, List.set_cons_zero, List.set_cons_succ] <;> rfl) ⟨(hG.setCell (p := ⟨b0, 0, none⟩) h0 _).setCell (p := ⟨b0, 1, none⟩) h0 _, (fun h => f0.out h), (fun h => f1.out h), (fun h => f2.out h), (fun h => f3.out h), (fun h => f4.out h), (fun h => f5.out h), (fun h => f6.out h), (fun h => f7.out h), (fun h => f8.out h), (fun h => f9.out h), (fun h => (fun _ h8 => absurd h8 (by simp)) (f10.out h)), (fun _ => ⟨hD.on 10 (by kernel_rfl), b0, rfl, (hB0.set 0 _).set 1 _⟩)⟩
 intro L vs W hlen hall hI
 obtain ⟨x0, x1, x2, x3, x4, x5, x6, x7, x8, x9, x10, x11, rfl⟩ := len12 hlen
 have hG := hI.1
 replace hI := hI.2
 have f0 := hide hI.1
 replace hI := hI.2
 have f1 := hide hI.1
 replace hI := hI.2
 have f2 := hide hI.1
 replace hI := hI.2
 have f3 := hide hI.1
 replace hI := hI.2
 have f4 := hide hI.1
 replace hI := hI.2
 have f5 := hide hI.1
 replace hI := hI.2
 have f6 := hide hI.1
 replace hI := hI.2
 have f7 := hide hI.1
 replace hI := hI.2
 have f8 := hide hI.1
 replace hI := hI.2
 have f9 := hide hI.1
 replace hI := hI.2
 have f10 := hide hI.1
 replace hI := hI.2
 have f11 := hide hI
 clear hI
 obtain rfl := f0.out (hall 0 (by decide))
 obtain rfl := f1.out (hall 1 (by decide))
 obtain rfl := f2.out (hall 2 (by decide))
 obtain rfl := f3.out (hall 3 (by decide))
 obtain rfl := f4.out (hall 4 (by decide))
 obtain rfl := f5.out (hall 5 (by decide))
 obtain rfl := f6.out (hall 6 (by decide))
 obtain rfl := f7.out (hall 7 (by decide))
 obtain rfl := f8.out (hall 8 (by decide))
 obtain rfl := f9.out (hall 9 (by decide))
 have g10 := f10.out (hall 10 (by decide))
 have g11 := f11.out (hall 11 (by decide))
 have hal := hide hall
 clear hall f0 f1 f2 f3 f4 f5 f6 f7 f8 f9 f10 f11
 try simp only [puts, Act.put, List.setIfInBounds_toArray, List.set_cons_zero, List.set_cons_succ]
 obtain ⟨-, Q, rfl, bQ⟩ := g11
 have hbd := hG
 have hW3 := below2 hWY hbd
 replace B3 := B3.later hbd
 replace bP := bP.later hbd
 have hp := RecIn.below hbd hpY
 clear BR BRH Yb Yz hp2 hpY hWY hW2 hG hal g10 hbd
 generalize W = w3 at *
 go_wp2_with fail
 have hW := hW3
 clear hW3
 refine (HPA.out _).mono ?_
 rintro e w4 ⟨rfl, hw4⟩
 obtain rfl := hw4.symm
 go_wp2_with fail
 have c0 := bP.cell 0 rfl
 have c1 := bP.cell 1 rfl
 refine (HPB.out _).mono ?_
 rintro e w4 ⟨rfl, hw4⟩
 obtain rfl := hw4.symm
 go_wp2_with fail
 refine (HLY.out _ _ hp).mono ?_
 rintro e w5 ⟨v, rfl, hv, hb⟩
 have hown := hv.at
 obtain ⟨oa, oc, rfl, -, -, -⟩ := id hown
 clear hv
 replace bP := bP.later hb
 replace bQ := bQ.later hb
 replace B3 := B3.later hb
 replace hp := RecIn.below hb hp
 replace hW := below2 hW hb
 clear hb
 try clear c0 c1
 try clear d0 d1 e0 e1 e2
 have c0 := bP.cell 0 rfl
 have c1 := bP.cell 1 rfl
 have d0 := bQ.cell 0 rfl
 have d1 := bQ.cell 1 rfl
 have e0 := B3.cell 0 rfl
 have e1 := B3.cell 1 rfl
 have e2 := B3.cell 2 rfl
 go_wp2_with fail
 refine (agree_any ⟨(N : Int), ps⟩ _ _ _ a b _ hp hown (HGL0.out.later hW)).mono ?_
 rintro e w6 ⟨rfl, hb⟩
 clear hown
 replace bP := bP.later hb
 replace bQ := bQ.later hb
 replace B3 := B3.later hb
 replace hp := RecIn.below hb hp
 replace hW := below2 hW hb
 clear hb
 try clear c0 c1
 try clear d0 d1 e0 e1 e2
 have c0 := bP.cell 0 rfl
 have c1 := bP.cell 1 rfl
 have d0 := bQ.cell 0 rfl
 have d1 := bQ.cell 1 rfl
 have e0 := B3.cell 0 rfl
 have e1 := B3.cell 1 rfl
 have e2 := B3.cell 2 rfl
 go_wp2_with fail
 refine (agree_any ⟨(N : Int), ps⟩ _ _ _ _ _ _ hp (ints_take (ints_low HIW.out hW) hkl) (HGL0.out.later hW)).mono ?_
 rintro e w7 ⟨rfl, hb⟩
 replace bP := bP.later hb
 replace bQ := bQ.later hb
 replace B3 := B3.later hb
 replace hp := RecIn.below hb hp
 replace hW := below2 hW hb
 clear hb
 try clear c0 c1
 try clear d0 d1 e0 e1 e2
 have c0 := bP.cell 0 rfl
 have c1 := bP.cell 1 rfl
 have d0 := bQ.cell 0 rfl
 have d1 := bQ.cell 1 rfl
 have e0 := B3.cell 0 rfl
 have e1 := B3.cell 1 rfl
 have e2 := B3.cell 2 rfl
 go_wp2_with fail
 refine (HBN.out _ _ hp).mono ?_
 rintro e w8 ⟨o', pv', rfl, hp', hb⟩
 replace bP := bP.later hb
 replace bQ := bQ.later hb
 replace B3 := B3.later hb
 replace hp := RecIn.below hb hp
 replace hW := below2 hW hb
 clear hb
 try clear c0 c1
 try clear d0 d1 e0 e1 e2
 have c0 := bP.cell 0 rfl
 have c1 := bP.cell 1 rfl
 have d0 := bQ.cell 0 rfl
 have d1 := bQ.cell 1 rfl
 have e0 := B3.cell 0 rfl
 have e1 := B3.cell 1 rfl
 have e2 := B3.cell 2 rfl
 go_wp2_with fail
 refine (agree_any o' pv' _ _ _ _ _ hp' (ints_take (ints_low HIW.out hW) hkl) (HGL0.out.later hW)).mono ?_
 rintro e w9 ⟨rfl, hb⟩
 clear hp'
 replace bP := bP.later hb
 replace bQ := bQ.later hb
 replace B3 := B3.later hb
 replace hp := RecIn.below hb hp
 replace hW := below2 hW hb
 clear hb
 try clear c0 c1
 try clear d0 d1 e0 e1 e2
 have c0 := bP.cell 0 rfl
 have c1 := bP.cell 1 rfl
 have d0 := bQ.cell 0 rfl
 have d1 := bQ.cell 1 rfl
 have e0 := B3.cell 0 rfl
 have e1 := B3.cell 1 rfl
 have e2 := B3.cell 2 rfl
 go_wp2_with fail
 refine (HLO.out _ hW).mono ?_
 rintro e w10 ⟨pv2, rfl, hO, hb⟩
 have hp'' : PairsIn w10.cell? pv2 (looseL N xs) := RecIn.at (RecIn.of_own hO (fun _ => rfl) (Nat.le_refl _))
 clear hO
 replace bP := bP.later hb
 replace bQ := bQ.later hb
 replace B3 := B3.later hb
 replace hp := RecIn.below hb hp
 replace hW := below2 hW hb
 clear hb
 try clear c0 c1
 try clear d0 d1 e0 e1 e2
 have c0 := bP.cell 0 rfl
 have c1 := bP.cell 1 rfl
 have d0 := bQ.cell 0 rfl
 have d1 := bQ.cell 1 rfl
 have e0 := B3.cell 0 rfl
 have e1 := B3.cell 1 rfl
 have e2 := B3.cell 2 rfl
 go_wp2_with fail
 refine (agree_any ⟨_, _⟩ pv2 _ _ _ _ _ hp'' (ints_take (ints_low HIW.out hW) hkl) (HGL0.out.later hW)).mono ?_
 rintro e w11 ⟨rfl, hb⟩
 clear hp''
 replace bP := bP.later hb
 replace bQ := bQ.later hb
 replace B3 := B3.later hb
 replace hp := RecIn.below hb hp
 replace hW := below2 hW hb
 clear hb
 try clear c0 c1
 try clear d0 d1 e0 e1 e2
 have c0 := bP.cell 0 rfl
 have c1 := bP.cell 1 rfl
 have d0 := bQ.cell 0 rfl
 have d1 := bQ.cell 1 rfl
 have e0 := B3.cell 0 rfl
 have e1 := B3.cell 1 rfl
 have e2 := B3.cell 2 rfl
 go_wp2_with fail
 refine (agree_any ⟨rn, rps.take q⟩ (.slice ra q rc) _ _ _ _ _ (recin_take (RecIn.below hW HRW.out) hql) (ints_take (ints_low HIW.out hW) hkl) (HGL0.out.later hW)).mono ?_
 rintro e w12 ⟨rfl, hb⟩
 replace bP := bP.later hb
 replace bQ := bQ.later hb
 replace B3 := B3.later hb
 replace hp := RecIn.below hb hp
 replace hW := below2 hW hb
 clear hb
 try clear c0 c1
 try clear d0 d1 e0 e1 e2
 have c0 := bP.cell 0 rfl
 have c1 := bP.cell 1 rfl
 have d0 := bQ.cell 0 rfl
 have d1 := bQ.cell 1 rfl
 have e0 := B3.cell 0 rfl
 have e1 := B3.cell 1 rfl
 have e2 := B3.cell 2 rfl
 go_wp2_with fail
 go_ret
 exact ⟨rfl, hW⟩
end Go.Proofs.YtnidcoinfmcffaaDoor
/- What the tied rows' condition gives (the tables of math/bits, in memory), and the laws' arguments opened. No condition. -/
namespace Go.Proofs.YtnidcoinfmcffaaDoor
open Go.ChangeShapes Go.WideShapes Go.ChangeAt Go.RowKit

theorem Tryd.own : ownKnob Tryd.prog.godebug = none := by kernel_rfl
theorem Tryd.laidOut : laidOutB Tryd.prog = true := by kernel_rfl
theorem Tryd.cells3 : Tryd.prog.cellsOf 3 = 1 := by kernel_rfl
theorem Tryd.cells46 : Tryd.prog.cellsOf 46 = 2 := by kernel_rfl
theorem Tryd.cells99 : Tryd.prog.cellsOf 99 = 32 := by kernel_rfl
theorem Tryd.cells100 : Tryd.prog.cellsOf 100 = 64 := by kernel_rfl
theorem Tryd.cells5 : Tryd.prog.cellsOf 5 = 1 := by kernel_rfl
def laidL : List (String × DataW Unit) := [("math/bits.deBruijn32tab", Rows.laid_math_bits_deBruijn32tab), ("math/bits.deBruijn64tab", Rows.laid_math_bits_deBruijn64tab)]
theorem door_met (os : Os) (args : Array Value) : laidMet Tryd.prog laidL ((World.doorLaid Tryd.prog 33 os).forCall (fun _ _ => 0) ⟨#[], args, []⟩).memory :=
 laidMet_of_run' 8 (by kernel_rfl) (by kernel_rfl)
theorem g32 : Tryd.prog.globalNamed "math/bits.deBruijn32tab" = some 0 := by kernel_rfl
theorem g64 : Tryd.prog.globalNamed "math/bits.deBruijn64tab" = some 1 := by kernel_rfl
theorem t32g : (Tryd.prog.globals[0]?).map (·.type) = some 99 := by kernel_rfl
theorem t64g : (Tryd.prog.globals[1]?).map (·.type) = some 100 := by kernel_rfl
theorem gblk_of {W : World} {n : String} {g : Nat} {cs : Array Value} {vs : List Value} (hg : Tryd.prog.globalNamed n = some g) (h : W.var? Tryd.prog n = some cs) (hc : cs.toList = vs) : GBlk W g vs := by
 have hc' : cs = vs.toArray := by rw [← hc]
 subst hc'
 simp only [World.var?, hg, Option.bind_some] at h
 split at h
 ·rename_i cs' t m hh
  cases h
  exact ⟨t, m, hh⟩
 ·cases h
theorem glob_of_laid {W : World} (h : laidMet Tryd.prog laidL W) : Glob W := by
 obtain ⟨ps, ⟨g0, t0, cs0, f0, p0, q0, hg0, ht0, hv0, hd0, ⟨g1, t1, cs1, f1, p1, q1, hg1, ht1, hv1, hd1, -, -⟩, -⟩, -, -⟩ := h
 obtain rfl := Option.some.inj (g32.symm.trans hg0)
 obtain rfl := Option.some.inj (g64.symm.trans hg1)
 obtain rfl := Option.some.inj (t32g.symm.trans ht0)
 obtain rfl := Option.some.inj (t64g.symm.trans ht1)
 exact ⟨gblk_of g32 hv0 (Lib.cells_of_tab Tryd.underlying99 Tryd.underlying5 Tryd.cells5 Tryd.cells99 hd0), gblk_of g64 hv1 (Lib.cells_of_tab Tryd.underlying100 Tryd.underlying5 Tryd.cells5 Tryd.cells100 hd1)⟩
theorem recIn_of {α : Type} {f : α → List Value} {Q : α → Prop} {d : α} {k : Nat} {c : Addr → Option Value} {v : Value} {l : List α} (h : SliceR k (fun cs x => cs = f x ∧ Q x) d c v l) (hk : ∀ x, (f x).length = k) : RecIn f d k c v l ∧ ∀ x ∈ l, Q x := by
 obtain ⟨a, n, h1, h2, h3, h4⟩ := h
 refine ⟨⟨a, n, h1, h2, h3, fun i hi => ?_⟩, fun x hx => ?_⟩
 ·obtain ⟨b, o, cs, e, -, ⟨rfl, -⟩, hc⟩ := h4 i hi
  refine ⟨b, o, e, fun j u hu => ?_⟩
  have hj : j < k := by rw [← hk (l.getD i d)]; exact (List.getElem?_eq_some_iff.1 hu).1
  rw [hc j hj]; exact hu
 ·obtain ⟨i, hi, rfl⟩ := List.getElem_of_mem hx
  obtain ⟨b, o, cs, e, -, ⟨-, h5⟩, -⟩ := h4 i hi
  rwa [List.getD_eq_getElem?_getD, List.getElem?_eq_getElem hi] at h5
theorem ints_of {c : Addr → Option Value} {v : Value} {l : List Int} (h : RecIn (fun x : Int => [Value.int .i64 x]) 0 1 c v l) : IntsIn c v l := by
 obtain ⟨a, n, h1, h2, h3, h4⟩ := h
 refine ⟨a, n, h1, h2, h3, fun i hi => ?_⟩
 obtain ⟨b, o, e, hc⟩ := h4 i hi
 refine ⟨b, o, e, ?_⟩
 have := hc 0 _ rfl
 rwa [Nat.mul_one, Nat.add_zero] at this
section
variable {H : Type} {enc : TypeId × Value → H} {w : World} {base : Nat} {sp : Nat → Bool} {held : Bool}
def pairQ (p : Int × Int) : Prop := i64B p.1 ∧ i64B p.2
theorem trod_pair {n : Nat} {y : DataW H × List MemPlace} {cs : List Value} (hy : DataW.trod enc Tryd.prog w base sp held n 46 cs = some y) : ∃ p, cs = pairC p ∧ pairQ p := by
 obtain ⟨l, h1, rfl, h3⟩ := trod_arr Tryd.underlying46 Tryd.underlying3 Tryd.cells3 Tryd.cells46 hy
 match l, h1 with
 | [a, b], _ => exact ⟨(a, b), rfl, h3 a (by simp), h3 b (by simp)⟩
set_option maxRecDepth 100000 in
theorem open_i64 {r : Reach} {b0 : Nat} {v : Value} {d : DataW H} {ps : List MemPlace} (hv : Value.okWide Tryd.prog w r b0 3 v) (h : DataW.Trod enc Tryd.prog w base sp held 3 v d ps) :
  ∃ x : Int, v = .int .i64 x ∧ i64B x := by
 obtain ⟨n, h1, -, -, h4⟩ := open_int Tryd.underlying3 hv h
 exact ⟨n, h1, bounds_i64 h4⟩
set_option maxRecDepth 100000 in
theorem open_ints {r : Reach} {b0 : Nat} {v : Value} {d : DataW H} {ps : List MemPlace} (hv : Value.okWide Tryd.prog w r b0 26 v) (h : DataW.Trod enc Tryd.prog w base sp held 26 v d ps) :
  ∃ l, IntsIn w.cell? v l ∧ ∀ x ∈ l, i64B x := by
 obtain ⟨l, hs⟩ := open_sliceR (R := fun cs x => cs = [Value.int .i64 x] ∧ i64B x) 0 (by decide) Tryd.underlying26 Tryd.cells3 (fun n y cs hc hy => by
  obtain ⟨x, h1, h2⟩ := trod_i64 Tryd.underlying3 hy
  exact ⟨x, h1, h2⟩) hv h
 obtain ⟨h1, h2⟩ := recIn_of hs (fun _ => rfl)
 exact ⟨l, ints_of h1, h2⟩
set_option maxRecDepth 100000 in
theorem open_pairs {r : Reach} {b0 : Nat} {v : Value} {d : DataW H} {ps : List MemPlace} (hv : Value.okWide Tryd.prog w r b0 22 v) (h : DataW.Trod enc Tryd.prog w base sp held 22 v d ps) :
  ∃ l, PairsIn w.cell? v l ∧ ∀ x ∈ l, pairQ x := by
 obtain ⟨l, hs⟩ := open_sliceR (R := fun cs x => cs = pairC x ∧ pairQ x) (0, 0) (by decide) Tryd.underlying22 Tryd.cells46 (fun n y cs hc hy => trod_pair hy) hv h
 exact ⟨l, recIn_of hs (fun _ => rfl)⟩
end
end Go.Proofs.YtnidcoinfmcffaaDoor
/- Records of an order and arrays of three integers as arguments, opened. No condition. -/
namespace Go.Proofs.YtnidcoinfmcffaaDoor
open Go.ChangeShapes Go.WideShapes Go.ChangeAt Go.RowKit

theorem Tryd.cells23 : Tryd.prog.cellsOf 23 = 3 := by kernel_rfl
theorem Tryd.cells22 : Tryd.prog.cellsOf 22 = 1 := by kernel_rfl
set_option maxRecDepth 100000 in
theorem Tryd.cells25 : Tryd.prog.cellsOf 25 = 2 := by kernel_rfl
theorem trod_fldW {H : Type} {enc : TypeId × Value → H} {w : World} {base : Nat} {sp : Nat → Bool} {held : Bool} {P : Program} {fs : Array Field} {t : TypeId} {fuel : Nat} {cs : List Value} {x : DataW H × List MemPlace} (ht : P.underlying t = some (.struct fs)) (h : DataW.trod enc P w base sp held fuel t cs = some x) (i : Nat) (f : Field) (hf : fs[i]? = some f) :
  ∃ n y, DataW.trod enc P w base sp held n f.type ((cs.drop f.offset).take (P.cellsOf f.type)) = some y := by
 obtain ⟨xs, n, -, -, -, hlen, h1⟩ := DataW.trod_struct ht h
 have hi : i < fs.size := by
  rcases Array.getElem?_eq_some_iff.1 hf with ⟨hi, -⟩; exact hi
 exact ⟨n, xs[i], by rw [h1 i f hf, List.getElem?_eq_getElem (by omega)]⟩
theorem takeW {cs : List Value} {k : Nat} {v : Value} (h : (cs.drop k).take 1 = [v]) : cs[k]? = some v := by
 have : ((cs.drop k).take 1)[0]? = some v := by rw [h]; rfl
 rwa [List.getElem?_take_of_lt (by omega), List.getElem?_drop, Nat.add_zero] at this
section
variable {H : Type} {enc : TypeId × Value → H} {w : World} {base : Nat} {sp : Nat → Bool} {held : Bool}
set_option maxRecDepth 100000 in
theorem open_three {r : Reach} {b0 : Nat} {v : Value} {d : DataW H} {ps : List MemPlace} (hv : Value.okWide Tryd.prog w r b0 23 v) (h : DataW.Trod enc Tryd.prog w base sp held 23 v d ps) :
  ∃ p : Int × Int × Int, v = .agg #[.int .i64 p.1, .int .i64 p.2.1, .int .i64 p.2.2] ∧ i64B p.1 ∧ i64B p.2.1 ∧ i64B p.2.2 := by
 obtain ⟨l, h1, h2, h3⟩ := open_arr64 Tryd.underlying23 Tryd.underlying3 Tryd.cells3 Tryd.cells23 hv h
 match l, h1 with
 | [a, b, c], _ => exact ⟨(a, b, c), h2, h3 a (by simp), h3 b (by simp), h3 c (by simp)⟩
set_option maxRecDepth 100000 in
theorem open_order {r : Reach} {b0 : Nat} {v : Value} {d : DataW H} {ps : List MemPlace} (hv : Value.okWide Tryd.prog w r b0 25 v) (h : DataW.Trod enc Tryd.prog w base sp held 25 v d ps) :
  ∃ (x : OrderD) (pv : Value), v = orderV x.n pv ∧ PairsIn w.cell? pv x.pairs ∧ ∀ p ∈ x.pairs, pairQ p := by
 obtain ⟨cs, rfl, hsz⟩ : ∃ cs, v = .agg cs ∧ cs.size = Tryd.prog.cellsOf 25 := by
  simp only [Value.okWide, Tryd.underlying25] at hv
  obtain ⟨cs, h1, h2, -⟩ := hv
  exact ⟨cs, h1, h2⟩
 obtain ⟨m, hm⟩ := h
 rw [Tryd.cells25] at hsz
 obtain ⟨n0, y0, h0⟩ := trod_fldW Tryd.underlying25 hm 0 _ rfl
 obtain ⟨n1, y1, h1⟩ := trod_fldW Tryd.underlying25 hm 1 _ rfl
 obtain ⟨a0, e0, -⟩ := trod_i64 Tryd.underlying3 h0
 obtain ⟨pv, pl, e1, hps⟩ := trod_sliceR (R := fun cs x => cs = pairC x ∧ pairQ x) (0, 0) (by decide) Tryd.underlying22 Tryd.cells46 (fun n y cs hc hy => trod_pair hy) h1
 obtain ⟨g2, g3⟩ := recIn_of hps (fun _ => rfl)
 have g0 := takeW (by rw [← Tryd.cells3]; exact e0)
 have g1 := takeW (by rw [← Tryd.cells22]; exact e1)
 obtain ⟨b0, b1, hcs'⟩ : ∃ b0 b1, cs.toList = [b0, b1] := by
  match hh : cs.toList, (show cs.toList.length = 2 by simpa using hsz) with
  | [x, y], _ => exact ⟨_, _, rfl⟩
 simp only [Value.cells, hcs'] at g0 g1
 simp at g0 g1
 subst g0 g1
 refine ⟨⟨a0, pl⟩, _, ?_, g2, g3⟩
 congr 1
 exact Array.ext' (by simpa using hcs')
end
end Go.Proofs.YtnidcoinfmcffaaDoor
namespace Go.Proofs.YtnidcoinfmcffaaDoor
open Go.ChangeShapes Go.WideShapes Go.ChangeAt Go.RowKit

set_option maxRecDepth 100000 in
theorem omr_lifted (os : Os) (started : os.Started) (H : Type) (enc : TypeId × Value → H) :
  ReturnsInHanded {} Tryd.checked os 3 .any (fun w args => (Rows.orderMatchesReferenceSpec.pre enc Tryd.prog Tryd.f3 Rows.orderMatchesReferenceRow.domain false w args ∧ laidMet Tryd.prog Rows.orderMatchesReferenceRow.laid w) ∧ sizedMet enc Tryd.prog Tryd.f3 (OpenSpec.ofChange Rows.orderMatchesReferenceSpec) false w args)
   (Rows.orderMatchesReferenceSpec.post enc Tryd.prog Tryd.f3 false true false false) := by
 refine returnsInHanded_of_change_and (C := Tryd.checked) (X := fun w _ => laidMet Tryd.prog Rows.orderMatchesReferenceRow.laid w) (fun _ _ _ hh h => h.of_heap hh) Tryd.own started (by kernel_rfl) Tryd.func3
  (ChangeSpec.witness_shaped (enc := enc) (C := Tryd.checked) (os := os) (X := fun w _ => laidMet Tryd.prog Rows.orderMatchesReferenceRow.laid w) false (World.doorLaid Tryd.prog 33 os) #[.int .i64 0, .slice none 0 0, .int .i64 0, .agg #[.int .i64 0, .int .i64 0, .int .i64 0], .agg #[.int .i64 0, .slice none 0 0], .slice none 0 0, .int .i64 0, .int .i64 0] 8 rfl (World.shaped_of_RefB (by kernel_rfl) (by kernel_rfl)) (by kernel_rfl) (by kernel_rfl) (by kernel_rfl) (door_met os _)) ?_
 intro W base args ds gs before hval0 hW hcnd0 _ hL _
 have hval : ∀ (j : Nat) t v, Tryd.f3.params[j]? = some t → args[j]? = some v → Value.okWide Tryd.prog W .any base t v := hval0
 have hW' := hW
 obtain ⟨p, q, hA0, hV, rfl, hfz, hnd⟩ := hW
 have hA : DataW.TrodAll enc Tryd.prog W 0 (fun _ => true) true Tryd.f3.params.toList args.toList ds p := hA0
 rw [Tryd.params3] at hA hval
 obtain ⟨v0, as0, d0, ds0, p0, q0, e0, rfl, rfl, h0, hA⟩ := trodAll_cons hA
 obtain ⟨v1, as1, d1, ds1, p1, q1, rfl, rfl, rfl, h1, hA⟩ := trodAll_cons hA
 obtain ⟨v2, as2, d2, ds2, p2, q2, rfl, rfl, rfl, h2, hA⟩ := trodAll_cons hA
 obtain ⟨v3, as3, d3, ds3, p3, q3, rfl, rfl, rfl, h3, hA⟩ := trodAll_cons hA
 obtain ⟨v4, as4, d4, ds4, p4, q4, rfl, rfl, rfl, h4, hA⟩ := trodAll_cons hA
 obtain ⟨v5, as5, d5, ds5, p5, q5, rfl, rfl, rfl, h5, hA⟩ := trodAll_cons hA
 obtain ⟨v6, as6, d6, ds6, p6, q6, rfl, rfl, rfl, h6, hA⟩ := trodAll_cons hA
 obtain ⟨v7, as7, d7, ds7, p7, q7, rfl, rfl, rfl, h7, hA⟩ := trodAll_cons hA
 obtain ⟨rfl, rfl, rfl⟩ := trodAll_nil hA
 obtain rfl : args = #[v0, v1, v2, v3, v4, v5, v6, v7] := by cases args; simp_all
 obtain ⟨rfl, rfl⟩ := trodVars_none hV
 obtain ⟨x0, rfl, b0⟩ := open_i64 (hval 0 3 v0 rfl rfl) h0
 obtain ⟨x1, b1, c1⟩ := open_pairs (hval 1 22 v1 rfl rfl) h1
 obtain ⟨x2, rfl, b2⟩ := open_i64 (hval 2 3 v2 rfl rfl) h2
 obtain ⟨x3, rfl, b3⟩ := open_three (hval 3 23 v3 rfl rfl) h3
 obtain ⟨x4, pv4, rfl, b4, c4⟩ := open_order (hval 4 25 v4 rfl rfl) h4
 obtain ⟨x5, b5, c5⟩ := open_ints (hval 5 26 v5 rfl rfl) h5
 obtain ⟨x6, rfl, b6⟩ := open_i64 (hval 6 3 v6 rfl rfl) h6
 obtain ⟨x7, rfl, b7⟩ := open_i64 (hval 7 3 v7 rfl rfl) h7
 have hG := glob_of_laid hL
 refine (omr_any x0 x1 v1 x2 x3.1 x3.2.1 x3.2.2 x4 pv4 v5 x5 x6 x7 W b0 b1 c1 b2 b3.1 b3.2.1 b3.2.2 b4 b5 b6 b7 hG).mono fun e W' ⟨he, hb⟩ => ⟨_, he, ?_⟩
 exact post_law Tryd.laidOut (by kernel_rfl) rfl rfl Tryd.underlying4 rfl hW' hb
theorem omr_holds0 : Rows.OrderMatchesReferenceSaid :=
 OpenClaim.holds_of_wide 3 Tryd.f3 rfl rfl rfl rfl rfl rfl rfl ⟨rfl, rfl, rfl, rfl, rfl⟩ rfl rfl rfl rfl rfl (by kernel_rfl) Tryd.func3 (by kernel_rfl)
  (of_decide_eq_true (by kernel_rfl)) (by unfold Func.isWrapper; first | (rw [if_pos (by decide +kernel)]; kernel_rfl) | (rw [if_neg (by decide +kernel)]; exact ⟨rfl, rfl⟩))
  (fun os started H enc _ => omr_lifted os started H enc)
theorem omr_holds : Rows.OrderMatchesReferenceCardSaid :=
 Claim7.holds_tied_plain_at .later [] [.data, .data] true (true, "a03e51b0cfb03c3b5e3990621fc1dab324afc9dacbdb1aa63b29b85e98f9607e") false
  omr_holds0 (fun _ h => by cases h) (by kernel_rfl) (fun _ h => by cases h) orderMatchesReference_row_tie rfl ⟨rfl, rfl⟩ (by kernel_rfl) rfl
  (fun f fn hf hfn => by
   obtain rfl : f = 3 := Option.some.inj ((show Tryd.prog.funcNamed "putlog/putloglaw15.OrderMatchesReference" = some 3 by kernel_rfl).symm.trans hf) |>.symm
   obtain rfl : fn = Tryd.f3 := (Option.some.inj (Tryd.func3.symm.trans hfn)).symm
   exact ⟨by kernel_rfl, fun j t ht => by
    rw [Tryd.params3] at ht
    have hm : t ∈ [3, 22, 23, 25, 26] := by (have h := Array.mem_of_getElem? ht); simp at h ⊢; first | exact h | (rcases h with h | h <;> simp [h]) | (rcases h with h | h | h <;> simp [h]) | (rcases h with h | h | h | h <;> simp [h]) | (rcases h with h | h | h | h | h <;> simp [h]) | (rcases h with h | h | h | h | h | h <;> simp [h]) | (rcases h with h | h | h | h | h | h | h <;> simp [h]) | (rcases h with h | h | h | h | h | h | h | h <;> simp [h])
    have hall : ([3, 22, 23, 25, 26].all fun u => !Tryd.prog.wantsStandIn u) = true := by kernel_rfl
    exact (show Tryd.prog.wantsStandIn t = false by simpa using List.all_eq_true.1 hall t hm)⟩)
  (by kernel_rfl)
end Go.Proofs.YtnidcoinfmcffaaDoor
