/- The walk of the reference's Made. Conditions: how the arguments lie in memory; that integers are of 64 bits. -/
import Derived.Test.YtdjldidfnddpmaaGreatSwE
namespace Go.Proofs.YtdjldidfnddpmaaGreat
open Go.RowKit
set_option maxRecDepth 100000 in
set_option maxHeartbeats 4000000 in
theorem mader_any (x : NumsD) (xc xr xf : Value) (w : World) (hx : NumsIn w.cell? xc xr xf x) (h64 : Nums64 x) : Calls Tryz.prog 5 #[.agg #[xc, xr, xf]] w (CodeQ (madeC x) w) := by
  have HX := hide hx
  have H64 := hide h64
  obtain ⟨⟨xca, xcn, rfl, hc1, hc2, -⟩, ⟨xra, xrn, rfl, hr1, hr2, -⟩, ⟨xfa, xfn, rfl, hf1, hf2, -⟩⟩ := id hx
  have hcl : (x.clauses.length : Int) ≤ 9223372036854775807 := by omega
  have hrl : (x.repeals.length : Int) ≤ 9223372036854775807 := by omega
  have hfl : (x.facts.length : Int) ≤ 9223372036854775807 := by omega
  clear hx h64 hc1 hc2 hr1 hr2 hf1 hf2
  go_enter Tryz.func5, Tryz.ntmps5
  go_wp2_with fail
  generalize hX1 : World.alloc w _ = X1
  have zX1 : X1.heap.size = w.heap.size + 1 := by rw [← hX1]; simp
  have bX1 : Below w.heap.size w X1 := by rw [← hX1]; exact bal w _
  have bN_1 : Blk X1 (w.heap.size) [.slice xca x.clauses.length xcn, .slice xra x.repeals.length xrn, .slice xfa x.facts.length xfn] 25 := by rw [← hX1]; exact Blk.newA w _ (by first | rfl | simp)
  generalize hX2 : World.alloc X1 _ = X2
  have zX2 : X2.heap.size = w.heap.size + 1 + 1 := by rw [← hX2]; simp [zX1]
  have bX2 : Below X1.heap.size X1 X2 := by rw [← hX2]; exact bal X1 _
  have bR_2 : Blk X2 (w.heap.size + 1) [.slice none 0 0, .slice none 0 0, .slice none 0 0] 30 := by rw [← hX2, ← zX1]; exact Blk.newA X1 _ (by first | rfl | simp)
  have bN_2 := bN_1.later bX2
  generalize hX3 : World.alloc X2 _ = X3
  have zX3 : X3.heap.size = w.heap.size + 1 + 1 + 1 := by rw [← hX3]; simp [zX2]
  have bX3 : Below X2.heap.size X2 X3 := by rw [← hX3]; exact bal X2 _
  have bC : Blk X3 (w.heap.size + 1 + 1) [.slice none 0 0, .slice none 0 0, .slice none 0 0] 30 := by rw [← hX3, ← zX2]; exact Blk.newA X2 _ (by first | rfl | simp)
  have bN := bN_2.later bX3
  have bR := bR_2.later bX3
  have Xb := below2 (below2 (bX1) bX2) bX3
  have Xz := zX3
  clear hX1 zX1 bX1 hX2 zX2 bX2 hX3 zX3 bX3 bN_1 bN_2 bR_2
  refine made_loop1 w X3 x xca xra xfa xcn xrn xfn HX H64 hcl bN bR bC Xb (by omega) _ _ _ _ _ _ _ _ _ _ _ _ _ _ _ _ _ _ _ _ _ _ _ _ _ _ _ _ _ _ _ _ _ _ _ _ _ _ _ _ _ _ _ _ _ _ _ _ _ _ _ _ _ _ _ _ _ _ _ _ _ _ _ _ _ _ _ _ _ _ _ _ _ _ _ _ _ _ _ _ _ _ _ _ _ _ _ _ _ _ _ _ _ _ _ _ _ _ _ _ _ _ _ _ _ _ _ _ _ _ _ _ _ _ _ _ _ _ _ _ _ _ _ _ _ _ _ _ _ ?_
  clear bN bR bC Xb Xz
  intro t4 t5 t6 t11 t12 t13 t14 t15 t16 t17 t18 t19 t20 t21 t22 t23 t24 t25 t26 t27 t28 t29 t30 t31 t32 t33 t34 t35 t36 t37 t38 t39 t40 t41 t42 t43 t44 t45 t46 t47 t48 t49 t50 t51 t52 wr cv hcv bC bN bR hb hs
  obtain ⟨ca, cc, rfl⟩ := hcv.form
  have hm : (x.clauses.take 8).length = ((x.clauses.take 8).map madeClause).length := (List.length_map ..).symm
  generalize ((x.clauses.take 8).map madeClause).length = m at hm bC hcv ⊢
  have n1 := bN.cell 1 rfl
  go_wp2_with fail
  refine made_loop2 w wr x xca xra xfa xcn xrn xfn HX H64 hrl ca m cc hm.symm hcv bN bR bC hb hs _ _ _ _ _ _ _ _ _ _ _ _ _ _ _ _ _ _ _ _ _ _ _ _ _ _ _ _ _ _ _ _ _ _ _ _ _ _ _ _ _ _ _ _ _ _ _ _ _ _ _ _ _ _ _ _ _ _ _ _ _ _ _ _ _ _ _ _ _ _ _ _ _ _ _ _ _ _ _ _ _ _ _ _ _ _ _ _ _ _ _ _ _ _ _ _ _ _ _ _ _ _ _ _ _ _ _ _ _ _ _ _ _ _ _ _ _ _ _ _ _ _ _ _ _ _ _ _ _ ?_
  clear hcv bC bN bR hb hs n1 hm
  intro s7 s8 s53 s54 s55 s56 s57 s58 s59 s60 s61 s62 s63 s64 s65 s66 s67 s68 s69 s70 s71 s72 s73 s74 s75 s76 s77 s78 s79 s80 s81 s82 s83 s84 s85 s86 s87 s88 s89 s90 s91 s92 wz rv hcv hre bC bN bR hb hs
  obtain ⟨ra, rc, rfl⟩ := own_form hre
  generalize (List.map repealC (madeC x).repeals).length = rm at *
  go_wp2_with fail
  refine made_loop3 w wz x xca xra xfa xcn xrn xfn HX H64 hfl ca m cc ra rm rc hcv hre bN bR bC hb hs _ _ _ _ _ _ _ _ _ _ _ _ _ _ _ _ _ _ _ _ _ _ _ _ _ _ _ _ _ _ _ _ _ _ _ _ _ _ _ _ _ _ _ _ _ _ _ _ _ _ _ _ _ _ _ _ _ _ _ _ _ _ _ _ _ _ _ _ _ _ _ _ _ _ _ _ _ _ _ _ _ _ _ _ _ _ _ _ _ _ _ _ _ _ _ _ _ _ _ _ _ _ _ _ _ _ _ _ _ _ _ _ _ _ _ _ _ _ _ _ _ _ _ _ _ _ _ _ _ ?_
  clear hcv bC bN bR hb hs hre
  intro r9 r10 r93 r94 r95 r96 r97 r98 r99 r100 r101 r102 r103 r104 r105 r106 r107 r108 r109 r110 r111 r112 r113 r114 r115 r116 r117 r118 r119 r120 r121 r122 r123 r124 r125 r126 r127 r128 r129 r130 wy fv hco bC bN bR hb hs
  obtain ⟨fa, fc, rfl⟩ := own_form hco.fa
  generalize (List.map factC (madeC x).facts).length = fm at *
  have b0 := bC.cell 0 rfl
  have b1 := bC.cell 1 rfl
  have b2 := bC.cell 2 rfl
  have r0 := bR.cell 0 rfl
  have r1 := bR.cell 1 rfl
  have r2 := bR.cell 2 rfl
  have f0 := bR.frozen 0
  have f1 := bR.frozen 1
  have f2 := bR.frozen 2
  have HCO := hide hco
  have HBR := hide bR
  have HB := hide hb
  have HS := hide hs
  clear hco bC bN hb hs
  obtain ⟨hy2, hy3', -⟩ := set3 HBR.out (.slice ca m cc) (.slice ra rm rc) (.slice fa fm fc)
  have hy3 := hy3' _ _ HB.out (by omega)
  have hE : EffY (w.heap.size + 1 + 1 + 1) 31 (w.heap.size + 1) wy _ := (((EffY.of_below (Below.refl _ wy)).set 0 (.slice ca m cc)).set 1 (.slice ra rm rc)).set 2 (.slice fa fm fc)
  have HCF := hide (CodeOwn.mk (HCO.out.cl.kept hE HBR.out (by decide) (by decide) (by decide) (by decide)) (HCO.out.re.kept hE HBR.out (by decide) (by decide)) (HCO.out.fa.kept hE HBR.out (by decide) (by decide)))
  have HSZ := hide hE.size
  clear hE hy3'
  go_wp2_with fail
  generalize World.setCell (World.setCell _ _ _) ⟨w.heap.size + 1, 2, none⟩ _ = Wf at hy2 hy3 HCF HSZ ⊢
  have x0 := hy2.cell 0 rfl
  have x1 := hy2.cell 1 rfl
  have x2 := hy2.cell 2 rfl
  refine bodyPost_ret (v := .agg #[.slice ca m cc, .slice ra rm rc, .slice fa fm fc]) (by simp [results, Tryz.results5, go_sem, x0, x1, x2]) rfl ?_
  exact ⟨_, _, _, w.heap.size + 1 + 1 + 1, rfl, by omega, by have := HSZ.out; have := HS.out; omega, HCF.out, hy3⟩
end Go.Proofs.YtdjldidfnddpmaaGreat
