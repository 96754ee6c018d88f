/- Register: the walk of the laws' sane: it returns true. Condition: how the global tables lie in memory. -/
import Derived.Test.YtoofkahklboojaaDoorRkY
import Derived.Test.YtoofkahklboojaaDoorRkM
namespace Go.Proofs.YtoofkahklboojaaDoor
open Go.RowKit

theorem bne {w : World} {b c : Nat} {vs us : List Value} {t t' : TypeId} (h : Blk w b vs t) (k : Blk w c us t') (ht : t ≠ t') : b ≠ c := fun e => by
  subst e
  have := (show w.heap[b]? = _ from h).symm.trans (show w.heap[b]? = _ from k)
  simp at this; exact ht this.2
theorem GBlk.other {w : World} {g : Nat} {vs : List Value} (h : GBlk w g vs) {c : Nat} (hc : g ≠ c) (j : Nat) (u : Value) : GBlk (w.setCell ⟨c, j, none⟩ u) g vs := by
  obtain ⟨t, m, h⟩ := h
  exact ⟨t, m, (Below.heap_setCell w ⟨c, j, none⟩ u g hc).trans h⟩
theorem rec_of_blk {α : Type} {f : α → List Value} {d : α} {k : Nat} {w : World} {n : Nat} {l : List α} {t : TypeId} (hk : ∀ x, (f x).length = k) (h : Blk w n ((l.map f).flatten) t) (c : Nat) (hc : l.length ≤ c) (hc2 : c ≤ 9223372036854775807) : RecIn f d k w.cell? (.slice (some ⟨n, 0, none⟩) l.length c) l := by
  refine ⟨some ⟨n, 0, none⟩, c, rfl, hc, hc2, fun i hi => ⟨n, 0, rfl, fun j u hu => ?_⟩⟩
  have hj : j < k := by rw [← hk (l.getD i d)]; exact (List.getElem?_eq_some_iff.1 hu).1
  rw [Nat.zero_add]
  refine h.cell _ ?_
  rw [flat_get (k := k) (fun r hr => by obtain ⟨x, -, rfl⟩ := List.mem_map.1 hr; exact hk x) i j hj, List.getD_eq_getElem?_getD, List.getElem?_map, List.getElem?_eq_getElem hi]
  rw [List.getD_eq_getElem?_getD, List.getElem?_eq_getElem hi] at hu
  exact hu
set_option maxRecDepth 100000 in
set_option maxHeartbeats 4000000 in
theorem sane_any (w : World) (hG : Glob w) : Calls Tryd.prog 11 #[] w (Ret (.bool true) w) := by
  go_enter Tryd.func11, Tryd.ntmps11
  go_wp2_with fail
  refine (examples_any w).mono ?_
  rintro e w1 ⟨n, m, rfl, bA, bB, hn, hm, hnm, hb⟩
  have hgl := hG.ev.lt
  have hgl2 := hG.tu.lt
  replace hG := hG.later hb
  have hmlt := bB.lt
  have DA : DotsAt w1 (.slice (some ⟨n, 0, none⟩) 4 4) exA := dots_of_blk (l := exA) bA 4 (by decide) (by decide)
  have DB : DotsAt w1 (.slice (some ⟨m, 0, none⟩) 5 5) exB := dots_of_blk (l := exB) bB 5 (by decide) (by decide)
  go_wp2_with fail
  refine (fits_any exA exB _ _ _ DA DB hG).mono ?_
  rw [ex_fits, ex_err]
  rintro e w2 ⟨v2, u2, rfl, ⟨hv2, rfl⟩, hb2⟩
  have FT : RecIn fitC fit0 5 (frm w1.heap.size w2) v2 [(1, ⟨99, 101, 50, 51⟩)] := hv2
  obtain ⟨fa, fc, rfl, -, -, -⟩ := id hv2
  replace DA := DA.below hb2
  replace DB := DB.below hb2
  replace bB := bB.later hb2
  replace hG := hG.later hb2
  replace hb := below2 hb hb2
  replace bA := bA.later hb2
  clear hv2
  have hm1 : m < w1.heap.size := hmlt
  go_wp2_with fail
  generalize hX1 : World.alloc w2 _ = X1
  have zX1 : X1.heap.size = w2.heap.size + 1 := by rw [← hX1]; simp
  have bX1 : Below w2.heap.size w2 X1 := by rw [← hX1]; exact bal w2 _
  have b5_1 : Blk X1 (w2.heap.size) [iV 1, iV 100, iV 50] 32 := by rw [← hX1]; exact Blk.newA w2 _ (by first | rfl | simp)
  generalize hX2 : World.alloc X1 _ = X2
  have zX2 : X2.heap.size = w2.heap.size + 1 + 1 := by rw [← hX2]; simp [zX1]
  have bX2 : Below X1.heap.size X1 X2 := by rw [← hX2]; exact bal X1 _
  have b6 : Blk X2 (w2.heap.size + 1) [iV 1, iV 99, iV 50] 32 := by rw [← hX2, ← zX1]; exact Blk.newA X1 _ (by first | rfl | simp)
  have b5 := b5_1.later bX2
  have Xb := below2 (bX1) bX2
  have Xz := zX2
  clear hX1 zX1 bX1 hX2 zX2 bX2 b5_1
  replace bA := bA.later Xb
  replace DA := DA.below Xb
  replace DB := DB.below Xb
  replace FT := FT.keeps (keeps_frm_later fun k _ h => (Xb).block k h)
  replace hG := hG.later Xb
  replace hb := below2 hb Xb
  replace bB := bB.later Xb
  have z5 : w2.heap.size < X2.heap.size := b5.lt
  generalize w2.heap.size + 1 = P6 at *
  generalize w2.heap.size = P5 at *
  clear Xz
  refine (apply_any ⟨1, 100, 50⟩ 5 5 _ hG).mono ?_
  rw [ex_app.1, ex_app.2]
  rintro e w3 ⟨rfl, hb3⟩
  replace bA := bA.later hb3
  replace DA := DA.below hb3
  replace DB := DB.below hb3
  replace FT := FT.keeps (keeps_frm_later fun k _ h => (hb3).block k h)
  replace hG := hG.later hb3
  replace hb := below2 hb hb3
  replace bB := bB.later hb3
  replace b5 := b5.later hb3
  replace b6 := b6.later hb3
  go_wp2_with fail
  refine (judge_any exA exB _ _ 40 _ DA DB (by decide) (by decide) hG).mono ?_
  rw [ex_j40, ex_q.1]
  rintro e w4 ⟨rfl, hb4⟩
  replace bA := bA.later hb4
  replace DA := DA.below hb4
  replace DB := DB.below hb4
  replace FT := FT.keeps (keeps_frm_later fun k _ h => (hb4).block k h)
  replace hG := hG.later hb4
  replace hb := below2 hb hb4
  replace bB := bB.later hb4
  replace b5 := b5.later hb4
  replace b6 := b6.later hb4
  go_wp2_with fail
  generalize hXX : World.alloc w4 _ = W4
  have hbX : Below w4.heap.size w4 W4 := by rw [← hXX]; exact bal w4 _
  have b9 : Blk W4 w4.heap.size [iV 3, iV 1, iV 99, iV 50, iV 30, iV 0, iV 0, iV 0] 55 := by rw [← hXX]; exact Blk.newA w4 _ rfl
  clear hXX
  replace bA := bA.later hbX
  replace DA := DA.below hbX
  replace DB := DB.below hbX
  replace FT := FT.keeps (keeps_frm_later fun k _ h => (hbX).block k h)
  replace hG := hG.later hbX
  replace hb := below2 hb hbX
  replace bB := bB.later hbX
  replace b5 := b5.later hbX
  replace b6 := b6.later hbX
  generalize w4.heap.size = P9 at *
  refine (judge_any exA exB _ _ 41 _ DA DB (by decide) (by decide) hG).mono ?_
  rw [ex_j41, ex_q.2.1]
  rintro e w5 ⟨rfl, hb5⟩
  replace bA := bA.later hb5
  replace DA := DA.below hb5
  replace DB := DB.below hb5
  replace FT := FT.keeps (keeps_frm_later fun k _ h => (hb5).block k h)
  replace hG := hG.later hb5
  replace hb := below2 hb hb5
  replace bB := bB.later hb5
  replace b5 := b5.later hb5
  replace b6 := b6.later hb5
  replace b9 := b9.later hb5
  go_wp2_with fail
  generalize hXX : World.alloc w5 _ = W5
  have hbX : Below w5.heap.size w5 W5 := by rw [← hXX]; exact bal w5 _
  have b11 : Blk W5 w5.heap.size [iV 2, iV 1, iV 100, iV 50, iV 31, iV 1, iV 99, iV 50] 55 := by rw [← hXX]; exact Blk.newA w5 _ rfl
  clear hXX
  replace bA := bA.later hbX
  replace DA := DA.below hbX
  replace DB := DB.below hbX
  replace FT := FT.keeps (keeps_frm_later fun k _ h => (hbX).block k h)
  replace hG := hG.later hbX
  replace hb := below2 hb hbX
  replace bB := bB.later hbX
  replace b5 := b5.later hbX
  replace b6 := b6.later hbX
  replace b9 := b9.later hbX
  generalize w5.heap.size = P11 at *
  refine (judge_any exA exB _ _ 42 _ DA DB (by decide) (by decide) hG).mono ?_
  rw [ex_j42, ex_q.2.2.1]
  rintro e w6 ⟨rfl, hb6⟩
  replace bA := bA.later hb6
  replace DA := DA.below hb6
  replace DB := DB.below hb6
  replace FT := FT.keeps (keeps_frm_later fun k _ h => (hb6).block k h)
  replace hG := hG.later hb6
  replace hb := below2 hb hb6
  replace bB := bB.later hb6
  replace b5 := b5.later hb6
  replace b6 := b6.later hb6
  replace b9 := b9.later hb6
  replace b11 := b11.later hb6
  go_wp2_with fail
  generalize hXX : World.alloc w6 _ = W6
  have hbX : Below w6.heap.size w6 W6 := by rw [← hXX]; exact bal w6 _
  have b13 : Blk W6 w6.heap.size [iV 1, iV 0, iV 0, iV 0, iV (-1), iV 1, iV 99, iV 50] 55 := by rw [← hXX]; exact Blk.newA w6 _ rfl
  clear hXX
  replace bA := bA.later hbX
  replace DA := DA.below hbX
  replace DB := DB.below hbX
  replace FT := FT.keeps (keeps_frm_later fun k _ h => (hbX).block k h)
  replace hG := hG.later hbX
  replace hb := below2 hb hbX
  replace bB := bB.later hbX
  replace b5 := b5.later hbX
  replace b6 := b6.later hbX
  replace b9 := b9.later hbX
  replace b11 := b11.later hbX
  generalize w6.heap.size = P13 at *
  refine (judge_any exA exB _ _ 2 _ DA DB (by decide) (by decide) hG).mono ?_
  rw [ex_j2, ex_q.2.2.2]
  rintro e w7 ⟨rfl, hb7⟩
  replace bA := bA.later hb7
  replace DA := DA.below hb7
  replace DB := DB.below hb7
  replace FT := FT.keeps (keeps_frm_later fun k _ h => (hb7).block k h)
  replace hG := hG.later hb7
  replace hb := below2 hb hb7
  replace bB := bB.later hb7
  replace b5 := b5.later hb7
  replace b6 := b6.later hb7
  replace b9 := b9.later hb7
  replace b11 := b11.later hb7
  replace b13 := b13.later hb7
  go_wp2_with fail
  generalize hXX : World.alloc w7 _ = W7
  have hbX : Below w7.heap.size w7 W7 := by rw [← hXX]; exact bal w7 _
  clear hXX
  replace bA := bA.later hbX
  replace DA := DA.below hbX
  replace DB := DB.below hbX
  replace FT := FT.keeps (keeps_frm_later fun k _ h => (hbX).block k h)
  replace hG := hG.later hbX
  replace hb := below2 hb hbX
  replace bB := bB.later hbX
  replace b5 := b5.later hbX
  replace b6 := b6.later hbX
  replace b9 := b9.later hbX
  replace b11 := b11.later hbX
  replace b13 := b13.later hbX
  refine (blame_any exA exB _ _ _ DA DB hG).mono ?_
  rw [ex_bl.1]
  rintro e w8 ⟨v8, u8, rfl, ⟨hv8, rfl⟩, hb8⟩
  replace bA := bA.later hb8
  replace DA := DA.below hb8
  replace DB := DB.below hb8
  replace FT := FT.keeps (keeps_frm_later fun k _ h => (hb8).block k h)
  replace hG := hG.later hb8
  replace hb := below2 hb hb8
  replace bB := bB.later hb8
  replace b5 := b5.later hb8
  replace b6 := b6.later hb8
  replace b9 := b9.later hb8
  replace b11 := b11.later hb8
  replace b13 := b13.later hb8
  have f6 := bB.frozen 6
  have x6 := bB.cell 6 rfl
  go_wp2_with fail
  have hS : Blk (World.setCell w8 ⟨m, 6, none⟩ (iV 70)) m ((exC.map dotC).flatten) 53 := bB.set 6 (iV 70)
  have bA9 := bA.other hnm 6 (iV 70)
  have q5 := b5.other (bne b5 bB (by decide)) 6 (iV 70)
  have q6 := b6.other (bne b6 bB (by decide)) 6 (iV 70)
  have q9 := b9.other (bne b9 bB (by decide)) 6 (iV 70)
  have q11 := b11.other (bne b11 bB (by decide)) 6 (iV 70)
  have q13 := b13.other (bne b13 bB (by decide)) 6 (iV 70)
  have FT9 : RecIn fitC fit0 5 (frm w1.heap.size (World.setCell w8 ⟨m, 6, none⟩ (iV 70))) (.slice fa 1 fc) [(1, ⟨99, 101, 50, 51⟩)] := FT.keeps (keeps_frm_later fun k hk _ => Below.heap_setCell _ _ _ _ (by show k ≠ m; omega))
  have hG9 : Glob (World.setCell w8 ⟨m, 6, none⟩ (iV 70)) := ⟨hG.ev.other (by omega) 6 (iV 70), hG.tu.other (by omega) 6 (iV 70)⟩
  have hb9 := hb.setCell (p := ⟨m, 6, none⟩) hm (iV 70)
  generalize World.setCell w8 _ _ = w9 at hS bA9 q5 q6 q9 q11 q13 FT9 hG9 hb9 ⊢
  clear f6 x6 bA bB b5 b6 b9 b11 b13 FT hG hb DA DB
  have DA : DotsAt w9 (.slice (some ⟨n, 0, none⟩) 4 4) exA := dots_of_blk (l := exA) bA9 4 (by decide) (by decide)
  have DB : DotsAt w9 (.slice (some ⟨m, 0, none⟩) 5 5) exC := dots_of_blk (l := exC) hS 5 (by decide) (by decide)
  refine (blame_any exA exC _ _ _ DA DB hG9).mono ?_
  rw [ex_bl.2, ex_blr]
  rintro e w10 ⟨v10, u10, rfl, ⟨hv10, rfl⟩, hb10⟩
  have PT : RecIn idsC (0, 0) 2 w10.cell? v10 [(1, 2), (1, 2), (1, 2), (1, 2)] := hv10.at
  obtain ⟨pa, pc, rfl, -, -, -⟩ := id hv10
  have DA10 := DA.below hb10
  have FT10 : RecIn fitC fit0 5 w10.cell? (.slice fa 1 fc) [(1, ⟨99, 101, 50, 51⟩)] := (FT9.keeps (keeps_frm_later fun k _ h => hb10.block k h)).at
  have c5 := q5.later hb10
  have c6 := q6.later hb10
  have c9 := q9.later hb10
  have c11 := q11.later hb10
  have c13 := q13.later hb10
  have hG10 := hG9.later hb10
  have hb10w := below2 hb9 hb10
  clear hv10 q5 q6 q9 q11 q13 FT9 hG9 hb9 hS bA9 DA DB
  have k5_0 := (c5).cell 0 rfl
  have k5_1 := (c5).cell 1 rfl
  have k5_2 := (c5).cell 2 rfl
  have k6_0 := (c6).cell 0 rfl
  have k6_1 := (c6).cell 1 rfl
  have k6_2 := (c6).cell 2 rfl
  have k9_0 := (c9).cell 0 rfl
  have k9_1 := (c9).cell 1 rfl
  have k9_2 := (c9).cell 2 rfl
  have k9_3 := (c9).cell 3 rfl
  have k9_4 := (c9).cell 4 rfl
  have k9_5 := (c9).cell 5 rfl
  have k9_6 := (c9).cell 6 rfl
  have k9_7 := (c9).cell 7 rfl
  have k11_0 := (c11).cell 0 rfl
  have k11_1 := (c11).cell 1 rfl
  have k11_2 := (c11).cell 2 rfl
  have k11_3 := (c11).cell 3 rfl
  have k11_4 := (c11).cell 4 rfl
  have k11_5 := (c11).cell 5 rfl
  have k11_6 := (c11).cell 6 rfl
  have k11_7 := (c11).cell 7 rfl
  have k13_0 := (c13).cell 0 rfl
  have k13_1 := (c13).cell 1 rfl
  have k13_2 := (c13).cell 2 rfl
  have k13_3 := (c13).cell 3 rfl
  have k13_4 := (c13).cell 4 rfl
  have k13_5 := (c13).cell 5 rfl
  have k13_6 := (c13).cell 6 rfl
  have k13_7 := (c13).cell 7 rfl
  go_wp2_with fail
  refine (invert_any ⟨1, 100, 50⟩ _ hG10).mono ?_
  rw [ex_inv]
  rintro e w11 ⟨rfl, hb11⟩
  have DA11 := DA10.below hb11
  have FT11 := FT10.below hb11
  have PT11 := PT.below hb11
  have c6' := c6.later hb11
  have hG11 := hG10.later hb11
  have hbw11 := below2 hb10w hb11
  clear DA10 FT10 PT c5 c6 c9 c11 c13 hG10 hb10w k5_0 k5_1 k5_2 k6_0 k6_1 k6_2 k9_0 k9_1 k9_2 k9_3 k9_4 k9_5 k9_6 k9_7 k11_0 k11_1 k11_2 k11_3 k11_4 k11_5 k11_6 k11_7 k13_0 k13_1 k13_2 k13_3 k13_4 k13_5 k13_6 k13_7
  go_wp2_with fail
  generalize hXX : World.alloc w11 _ = W12
  have hb12 : Below w11.heap.size w11 W12 := by rw [← hXX]; exact bal w11 _
  have bL : Blk W12 w11.heap.size (([((1 : Nat), (⟨99, 101, 50, 51⟩ : BoxD))].map fitC).flatten) 65 := by rw [← hXX]; exact Blk.newA w11 _ rfl
  clear hXX
  refine (same_any [(1, ⟨99, 101, 50, 51⟩)] _ _ _ (FT11.below hb12) (rec_of_blk (f := fitC) (d := fit0) (k := 5) (l := [((1 : Nat), (⟨99, 101, 50, 51⟩ : BoxD))]) (fun _ => rfl) bL 1 (by decide) (by decide))).mono ?_
  rintro e w13 ⟨rfl, hb13⟩
  have hb113 := below2 hb12 hb13
  have DA13 := DA11.below hb113
  have PT13 := PT11.below hb113
  have c613 := c6'.later hb113
  have hG13 := hG11.later hb113
  have hbw13 := below2 hbw11 hb113
  clear DA11 FT11 PT11 c6' hG11 hbw11 bL
  go_wp2_with fail
  refine (examples_any w13).mono ?_
  rintro e w14 ⟨n', m', rfl, -, bB', -, -, -, hb14⟩
  have DA14 := DA13.below hb14
  have DB14 : DotsAt w14 (.slice (some ⟨m', 0, none⟩) 5 5) exB := dots_of_blk (l := exB) bB' 5 (by decide) (by decide)
  have PT14 := PT13.below hb14
  have c614 := c613.later hb14
  have hG14 := hG13.later hb14
  have hbw14 := below2 hbw13 hb14
  clear DA13 PT13 c613 hG13 hbw13 bB'
  go_wp2_with fail
  generalize hXX : World.alloc w14 _ = W15
  have hb15 : Below w14.heap.size w14 W15 := by rw [← hXX]; exact bal w14 _
  have bL : Blk W15 w14.heap.size (([((1 : Int), (2 : Int)), (1, 2), (1, 2), (1, 2)].map idsC).flatten) 58 := by rw [← hXX]; exact Blk.newA w14 _ rfl
  clear hXX
  refine (pairs_any [(1, 2), (1, 2), (1, 2), (1, 2)] _ _ _ (PT14.below hb15) (rec_of_blk (f := idsC) (d := ((0 : Int), (0 : Int))) (k := 2) (l := [((1 : Int), (2 : Int)), (1, 2), (1, 2), (1, 2)]) (fun _ => rfl) bL 4 (by decide) (by decide))).mono ?_
  rintro e w16 ⟨rfl, hb16⟩
  have hb116 := below2 hb15 hb16
  have DA16 := DA14.below hb116
  have DB16 := DB14.below hb116
  have c616 := c614.later hb116
  have hG16 := hG14.later hb116
  have hbw16 := below2 hbw14 hb116
  clear DA14 DB14 PT14 c614 hG14 hbw14 bL
  have k6_0 := (c616).cell 0 rfl
  have k6_1 := (c616).cell 1 rfl
  have k6_2 := (c616).cell 2 rfl
  go_wp2_with fail
  refine (fitting_any exA exB _ _ ⟨1, 99, 50⟩ _ DA16 DB16 hG16).mono ?_
  rw [ex_fit.1]
  rintro e w17 ⟨rfl, hb17⟩
  go_wp2_with fail
  refine (fitting_any exA exB _ _ ⟨1, 98, 50⟩ _ (DA16.below hb17) (DB16.below hb17) (hG16.later hb17)).mono ?_
  rw [ex_fit.2.1]
  rintro e w18 ⟨rfl, hb18⟩
  go_wp2_with fail
  refine (rvalid_any exA _ _ (DA16.below (below2 hb17 hb18))).mono ?_
  rw [ex_fit.2.2.1]
  rintro e w19 ⟨rfl, hb19⟩
  go_wp2_with fail
  generalize hXX : World.alloc w19 _ = W20
  have hb20 : Below w19.heap.size w19 W20 := by rw [← hXX]; exact bal w19 _
  have bL : Blk W20 w19.heap.size (([(⟨100, 0, 0, 0⟩ : DotD)].map dotC).flatten) 53 := by rw [← hXX]; exact Blk.newA w19 _ rfl
  clear hXX
  refine (rvalid_any [⟨100, 0, 0, 0⟩] _ _ (dots_of_blk (l := [⟨100, 0, 0, 0⟩]) bL 1 (by decide) (by decide))).mono ?_
  rw [ex_fit.2.2.2]
  rintro e w21 ⟨rfl, hb21⟩
  go_wp2_with fail
  go_ret
  exact ⟨rfl, below2 hbw16 (below2 hb17 (below2 hb18 (below2 hb19 (below2 hb20 hb21))))⟩
end Go.Proofs.YtoofkahklboojaaDoor
