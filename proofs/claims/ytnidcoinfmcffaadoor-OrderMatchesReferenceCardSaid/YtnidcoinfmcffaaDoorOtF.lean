/- The walk of sane (the laws of chapter 15). Conditions: the program's tables in memory. -/
import Derived.Test.YtnidcoinfmcffaaDoorOtE
import Derived.Test.YtnidcoinfmcffaaDoorOrP
import Derived.Test.YtnidcoinfmcffaaDoorOsU
import Derived.Test.YtnidcoinfmcffaaDoorOsJ
import Derived.Test.YtnidcoinfmcffaaDoorOsI
namespace Go.Proofs.YtnidcoinfmcffaaDoor
open Go.RowKit
attribute [local go_sem] Oper.semAt_some
theorem pairs_one : ∀ (ps : List (Int × Int)), ∀ r ∈ ps.map pairC, r.length = 2 := fun ps r hr => by obtain ⟨p, -, rfl⟩ := List.mem_map.1 hr; rfl
theorem pairs_cells (ps : List (Int × Int)) : ∀ u ∈ (ps.map pairC).flatten, u.oneCell' = true := fun u hu => by
 obtain ⟨r, hr, h⟩ := List.mem_flatten.1 hu
 obtain ⟨p, -, rfl⟩ := List.mem_map.1 hr
 exact pairC_one u h
theorem pairs_flat {w : World} {xa : Option Addr} {n c : Nat} {ps : List (Int × Int)} (h : PairsIn w.cell? (.slice xa n c) ps) : ∀ b, xa = some b → ∀ j u, (ps.map pairC).flatten[j]? = some u → w.cell? (b.add j) = some u := fun b hb j u hu => by
 subst hb
 obtain ⟨a', m', e, -, -, hc⟩ := h
 obtain ⟨rfl, -, -⟩ := Value.slice.inj e
 have e2 : j = j / 2 * 2 + j % 2 := by omega
 have hu' := hu
 rw [e2, flat_get (pairs_one ps) (j / 2) (j % 2) (Nat.mod_lt _ (by decide))] at hu'
 have hi : j / 2 < ps.length := by
  have h1 := (List.getElem?_eq_some_iff.1 hu).1
  rw [flat_len (pairs_one ps), List.length_map] at h1
  omega
 obtain ⟨b', o', e3, h3⟩ := hc (j / 2) hi
 cases e3
 have h4 := h3 (j % 2) u (by
  rw [List.getD_eq_getElem?_getD, List.getElem?_map, List.getElem?_eq_getElem hi] at hu'
  rw [List.getD_eq_getElem?_getD, List.getElem?_eq_getElem hi]
  exact hu')
 rw [Addr.add_lit]
 rw [show o' + j = o' + j / 2 * 2 + j % 2 by omega]
 exact h4
theorem pairs_none {c : Rd} {n m : Nat} {ps : List (Int × Int)} (h : PairsIn c (.slice none n m) ps) : ps.map pairC = [] := by
 cases ps with
 | nil => rfl
 | cons p t =>
  obtain ⟨a', m', e, -, -, hc⟩ := h
  obtain ⟨b, o, e2, -⟩ := hc 0 (by simp)
  cases e
  cases e2
theorem pairs_blk {w : World} {b : Nat} {ps : List (Int × Int)} (h : Blk w b (ps.map pairC).flatten 46) (hl : ps.length ≤ 1000) : PairsIn w.cell? (.slice (some ⟨b, 0, none⟩) ps.length ps.length) ps := by
 refine ⟨some ⟨b, 0, none⟩, ps.length, rfl, Nat.le_refl _, by omega, fun i hi => ⟨b, 0, rfl, fun j u hu => ?_⟩⟩
 have hj : j < 2 := (List.getElem?_eq_some_iff.1 hu).1
 rw [Nat.zero_add]
 refine h.cell _ ?_
 rw [flat_get (pairs_one ps) i j hj, List.getD_eq_getElem?_getD, List.getElem?_map, List.getElem?_eq_getElem hi]
 rw [List.getD_eq_getElem?_getD, List.getElem?_eq_getElem hi] at hu
 exact hu
theorem ints_blk {w : World} {b n : Nat} {l : List Int} (h : Blk w b (l.map (Value.int .i64)) 3) (hn : l.length = n) (hl : n ≤ 1000) : IntsIn w.cell? (.slice (some ⟨b, 0, none⟩) n n) l := by
 subst hn
 refine ⟨some ⟨b, 0, none⟩, l.length, rfl, Nat.le_refl _, by omega, fun i hi => ⟨b, 0, rfl, ?_⟩⟩
 rw [Nat.zero_add]
 refine h.cell _ ?_
 rw [List.getElem?_map, List.getElem?_eq_getElem hi, List.getD_eq_getElem?_getD, List.getElem?_eq_getElem hi]; rfl
/-! ## the chapter's example -/
def exO : List (Int × Int) := [(0, 2), (1, 2), (2, 3), (0, 3), (1, 4)]
def oddO : List (Int × Int) := [(0, 2), (1, 2), (2, 3), (0, 3), (1, 4), (3, 1)]
theorem ex_valid : validO ⟨5, exO⟩ = true := by decide +kernel
theorem ex_close : listO 5 (beforeO ⟨((5 : Nat) : Int), exO⟩) = [(0, 2), (0, 3), (1, 2), (1, 3), (1, 4), (2, 3)] := by decide +kernel
theorem ex_red : redL 5 (beforeO ⟨((5 : Nat) : Int), exO⟩) = [(0, 2), (1, 2), (1, 4), (2, 3)] := by decide +kernel
theorem ex_pref : natsO (prefixesO 5 (beforeO ⟨((5 : Nat) : Int), exO⟩)) = [0, 1, 2, 3, 7, 15, 18, 19, 23, 31] := by decide +kernel
theorem ex_line : natsO (lineO 5 (beforeO ⟨((5 : Nat) : Int), exO⟩)) = [0, 1, 2, 3, 4] := by decide +kernel
theorem ex_lines : (linesO 5 (beforeO ⟨((5 : Nat) : Int), exO⟩)).length = 7 := by decide +kernel
theorem ex_lev : natsO ((List.range 5).map (levO 5 (beforeO ⟨((5 : Nat) : Int), exO⟩))) = [0, 0, 1, 2, 1] := by decide +kernel
theorem ex_chain : natsO (chainO 5 (beforeO ⟨((5 : Nat) : Int), exO⟩)) = [0, 2, 3] := by decide +kernel
theorem ex_anti : natsO (antiO 5 (beforeO ⟨((5 : Nat) : Int), exO⟩)) = [0, 1] := by decide +kernel
theorem ex_cover : (natsL (coverO 5 (beforeO ⟨((5 : Nat) : Int), exO⟩))).length = 2 := by decide +kernel
theorem ex_cyc : cycF ⟨5, exO⟩ = none := by decide +kernel
theorem odd_cyc : cycF ⟨5, oddO⟩ = some [1, 2, 3] := by decide +kernel
theorem odd_valid : validO ⟨5, oddO⟩ = false := by decide +kernel
theorem odd_formed : formedO ⟨5, oddO⟩ = true := by decide +kernel
theorem nine_formed : formedO ⟨9, []⟩ = false := by decide +kernel
theorem ex_is : isLineB 5 (beforeO ⟨((5 : Nat) : Int), exO⟩) [1, 4, 0, 2, 3] = true := by decide +kernel
theorem ex_not : isLineB 5 (beforeO ⟨((5 : Nat) : Int), exO⟩) [1, 2, 0, 3, 4] = false := by decide +kernel
theorem ex_b13 : befB ⟨5, exO⟩ 1 3 = true := by decide +kernel
theorem ex_b31 : befB ⟨5, exO⟩ 3 1 = false := by decide +kernel
theorem ex_b01 : befB ⟨5, exO⟩ 0 1 = false := by decide +kernel
/-- what stands while the examples are checked -/
structure SanG (w : World) (b1 b2 : Nat) (pv qv : Value) (W : World) : Prop where
 b1 : Blk W b1 [.int .i64 5, pv] 25
 b2 : Blk W b2 [.int .i64 5, qv] 25
 p1 : PairsIn W.cell? pv exO
 p2 : PairsIn W.cell? qv oddO
 gl : Glob W
 hb : Below w.heap.size w W
theorem SanG.later {w W W' : World} {b1 b2 : Nat} {pv qv : Value} (h : SanG w b1 b2 pv qv W) (hb : Below W.heap.size W W') : SanG w b1 b2 pv qv W' :=
 ⟨h.b1.later hb, h.b2.later hb, h.p1.below hb, h.p2.below hb, h.gl.later hb, below2 h.hb hb⟩
/-- what stands behind the calls -/
structure FinG (w : World) (b1 b2 c1 c2 : Nat) (pv qv v1 v2 v3 v4 v6 v7 v8 v10 : Value) (W : World) : Prop where
 g : SanG w b1 b2 pv qv W
 x1 : Blk W c1 [.int .i64 5, v1] 25
 x2 : Blk W c2 [.int .i64 5, v2] 25
 p1 : PairsIn W.cell? v1 [(0, 2), (0, 3), (1, 2), (1, 3), (1, 4), (2, 3)]
 p2 : PairsIn W.cell? v2 [(0, 2), (1, 2), (1, 4), (2, 3)]
 i3 : IntsIn W.cell? v3 [0, 1, 2, 3, 7, 15, 18, 19, 23, 31]
 i4 : IntsIn W.cell? v4 [0, 1, 2, 3, 4]
 i6 : IntsIn W.cell? v6 [0, 0, 1, 2, 1]
 i7 : IntsIn W.cell? v7 [0, 2, 3]
 i8 : IntsIn W.cell? v8 [0, 1]
 i10 : IntsIn W.cell? v10 [1, 2, 3]
theorem ints_bel {w W : World} {v : Value} {l : List Int} (h : IntsIn w.cell? v l) (hb : Below w.heap.size w W) : IntsIn W.cell? v l := h.keeps (keeps_of_below hb)
theorem FinG.later {w : World} {b1 b2 c1 c2 : Nat} {pv qv v1 v2 v3 v4 v6 v7 v8 v10 : Value} {W W' : World} (h : FinG w b1 b2 c1 c2 pv qv v1 v2 v3 v4 v6 v7 v8 v10 W) (hb : Below W.heap.size W W') : FinG w b1 b2 c1 c2 pv qv v1 v2 v3 v4 v6 v7 v8 v10 W' :=
 ⟨h.g.later hb, h.x1.later hb, h.x2.later hb, h.p1.below hb, h.p2.below hb, ints_bel h.i3 hb, ints_bel h.i4 hb, ints_bel h.i6 hb, ints_bel h.i7 hb, ints_bel h.i8 hb, ints_bel h.i10 hb⟩
set_option maxRecDepth 100000 in
set_option maxHeartbeats 4000000 in
theorem sane_any (w : World) (hGl : Glob w) : Calls Tryd.prog 11 #[] w (Ret (.bool true) w) := by
 go_enter Tryd.func11, Tryd.ntmps11
 go_upto_region 2 with (fail)
 generalize hX1 : World.alloc w _ = X1
 have zX1 : X1.heap.size = w.heap.size + 1 := by rw [← hX1]; simp
 have bX1 : Below w.heap.size w X1 := by rw [← hX1]; exact bal w _
 have bL_1 : Blk X1 (w.heap.size) ((exO.map pairC).flatten) 46 := by rw [← hX1]; exact Blk.newA w _ (by first | rfl | simp)
 generalize hX2 : World.alloc X1 _ = X2
 have zX2 : X2.heap.size = w.heap.size + 1 + 1 := by rw [← hX2]; simp [zX1]
 have bX2 : Below X1.heap.size X1 X2 := by rw [← hX2]; exact bal X1 _
 have b1 : Blk X2 (w.heap.size + 1) [.int .i64 5, .slice (some ⟨w.heap.size, 0, none⟩) 5 5] 25 := by rw [← hX2, ← zX1]; exact Blk.newA X1 _ (by first | rfl | simp)
 have bL := bL_1.later bX2
 have Xb := below2 (bX1) bX2
 have Xz := zX2
 clear hX1 zX1 bX1 hX2 zX2 bX2 bL_1
 have hp1 : PairsIn X2.cell? (.slice (some ⟨w.heap.size, 0, none⟩) 5 5) exO := pairs_blk (ps := exO) bL (by decide)
 obtain ⟨B1, hB1⟩ : ∃ B1, w.heap.size + 1 = B1 := ⟨_, rfl⟩
 rw [hB1] at b1 ⊢
 obtain ⟨B0, hB0⟩ : ∃ B0, w.heap.size = B0 := ⟨_, rfl⟩
 have hw1 := Xb
 rw [hB0] at hp1 b1 ⊢
 have c1 := b1.cell 1 rfl
 have hGl1 := hGl.later Xb
 clear bL hB1 hB0 Xb Xz
 have hlit := lit_recsK X2 46 2 (B := X2.heap.size) (Nat.le_refl _)
 have hlc := fun o => keep (bal X2 o) c1
 have hpL := RecIn.below (bal X2 (.cells #[] 46)) hp1
 go_upto_region 3 with (at_builtin; first | (refine app_recE infoPair rfl (by decide) Tryd.underlying22 rfl _ _ rfl X2.heap.size _ (exO.map pairC) rfl hO3 (pairC (3, 1)) rfl pairC_one _ rfl rfl (by decide) (by decide) hs3 ?_; intro v4 w4 hO4 hE4 hob4; obtain ⟨gb, gd, e4⟩ : ∃ g c, v4 = .slice (some ⟨g, 0, none⟩) 6 c := own_some hO4; subst e4; replace hO4 : OwnR w4 X2.heap.size 46 2 (.slice (some ⟨gb, 0, none⟩) 6 gd) (oddO.map pairC) := hO4) | (refine app_recsE infoPair rfl (by decide) Tryd.underlying22 rfl _ _ rfl X2.heap.size _ [] rfl hlit (some ⟨B0, 0, none⟩) 5 5 (exO.map pairC) rfl rfl (pairs_one _) (pairs_cells _) (pairs_flat hpL) (fun h => by cases h) (by decide) (by decide) (by simp) ?_; intro v3 w3 hO3 hE3 hob3; obtain ⟨ga, gc, e3⟩ : ∃ a c, v3 = .slice a 5 c := OwnR.formE hO3; subst e3; replace hO3 : OwnR w3 X2.heap.size 46 2 (.slice ga 5 gc) (exO.map pairC) := hO3; have hs3 : X2.heap.size ≤ w3.heap.size := Nat.le_trans (bal X2 _).size hE3.size))
 have hE24 : Eff (fun k => X2.heap.size ≤ k) X2 w4 := (Eff.of_below (bal X2 (.cells #[] 46)) _).trans ((hE3.mono fun k _ e => (by cases e; exact Nat.le_refl _)).trans (hE4.mono fun k _ e => (hO3.ltB e.symm).1))
 have hb24 : Below X2.heap.size X2 w4 := hE24.below (Nat.le_refl _) (fun k e => e)
 have hp2 : PairsIn w4.cell? (.slice (some ⟨gb, 0, none⟩) 6 gd) oddO := RecIn.at (RecIn.of_own (l := oddO) hO4 (fun _ => rfl) (Nat.le_refl _))
 generalize hY1 : World.alloc w4 _ = Y1
 have zY1 : Y1.heap.size = w4.heap.size + 1 := by rw [← hY1]; simp
 have bY1 : Below w4.heap.size w4 Y1 := by rw [← hY1]; exact bal w4 _
 have b2 : Blk Y1 (w4.heap.size) [.int .i64 5, .slice (some ⟨gb, 0, none⟩) 6 gd] 25 := by rw [← hY1]; exact Blk.newA w4 _ (by first | rfl | simp)
 have Yb := bY1
 have Yz := zY1
 clear hY1 zY1 bY1
 have hX4 := below2 hb24 Yb
 have hG : SanG w B1 w4.heap.size (.slice (some ⟨B0, 0, none⟩) 5 5) (.slice (some ⟨gb, 0, none⟩) 6 gd) Y1 := ⟨b1.later hX4, b2, hp1.below hX4, hp2.below Yb, hGl1.later hX4, below2 hw1 hX4⟩
 obtain ⟨B2, hB2⟩ : ∃ B2, w4.heap.size = B2 := ⟨_, rfl⟩
 rw [hB2] at hG ⊢
 clear b1 b2 hp1 hp2 hw1 hX4 hE3 hE4 hO3 hO4 hob3 hob4 hE24 hb24 c1 hlc hlit hpL hGl1 Yb Yz hB2 hs3
 have x0 := hG.b1.cell 0 rfl
 have x1 := hG.b1.cell 1 rfl
 have y0 := hG.b2.cell 0 rfl
 have y1 := hG.b2.cell 1 rfl
 go_wp2_with fail
 refine (close_yes 5 exO _ _ hG.p1 ex_valid).mono ?_
 rintro e W1 ⟨v1, rfl, hv1, hb1⟩
 have hG1 := hG.later hb1
 have HB1 := hide hb1
 clear hG x0 x1 y0 y1
 rw [ex_close] at hv1
 have HV1 := hide hv1.at
 obtain ⟨va1, vc1, e1, -, -, -⟩ := id hv1
 subst e1
 clear hv1
 clear hb1
 go_upto_region 4 with (fail)
 generalize hU11 : World.alloc W1 _ = U11
 have zU11 : U11.heap.size = W1.heap.size + 1 := by rw [← hU11]; simp
 have bU11 : Below W1.heap.size W1 U11 := by rw [← hU11]; exact bal W1 _
 have bx1 : Blk U11 (W1.heap.size) [.int .i64 5, .slice va1 6 vc1] 25 := by rw [← hU11]; exact Blk.newA W1 _ (by first | rfl | simp)
 have U1b := bU11
 have U1z := zU11
 clear hU11 zU11 bU11
 have hG := hG1.later U1b
 have HU1 := hide U1b
 have HX1 := hide bx1
 obtain ⟨C1, hC1⟩ : ∃ C, W1.heap.size = C := ⟨_, rfl⟩
 rw [hC1] at HX1 ⊢
 clear U1b U1z bx1 hG1 hC1
 have x0 := hG.b1.cell 0 rfl
 have x1 := hG.b1.cell 1 rfl
 have y0 := hG.b2.cell 0 rfl
 have y1 := hG.b2.cell 1 rfl
 go_wp2_with fail
 refine (reduce_yes 5 exO _ _ hG.p1 ex_valid).mono ?_
 rintro e W2 ⟨v2, rfl, hv2, hb2⟩
 have hG2 := hG.later hb2
 have HB2 := hide hb2
 clear hG x0 x1 y0 y1
 rw [ex_red] at hv2
 have HV2 := hide hv2.at
 obtain ⟨va2, vc2, e2, -, -, -⟩ := id hv2
 subst e2
 clear hv2
 clear hb2
 go_upto_region 5 with (fail)
 generalize hU21 : World.alloc W2 _ = U21
 have zU21 : U21.heap.size = W2.heap.size + 1 := by rw [← hU21]; simp
 have bU21 : Below W2.heap.size W2 U21 := by rw [← hU21]; exact bal W2 _
 have bx2 : Blk U21 (W2.heap.size) [.int .i64 5, .slice va2 4 vc2] 25 := by rw [← hU21]; exact Blk.newA W2 _ (by first | rfl | simp)
 have U2b := bU21
 have U2z := zU21
 clear hU21 zU21 bU21
 have hG := hG2.later U2b
 have HU2 := hide U2b
 have HX2 := hide bx2
 obtain ⟨C2, hC2⟩ : ∃ C, W2.heap.size = C := ⟨_, rfl⟩
 rw [hC2] at HX2 ⊢
 clear U2b U2z bx2 hG2 hC2
 have x0 := hG.b1.cell 0 rfl
 have x1 := hG.b1.cell 1 rfl
 have y0 := hG.b2.cell 0 rfl
 have y1 := hG.b2.cell 1 rfl
 go_wp2_with fail
 refine (prefixes_yes 5 exO _ _ hG.p1 ex_valid).mono ?_
 rintro e W3 ⟨v3, rfl, hv3, hb3⟩
 have hG3 := hG.later hb3
 have HB3 := hide hb3
 clear hG x0 x1 y0 y1
 rw [ex_pref] at hv3
 have HV3 := hide hv3.at
 obtain ⟨va3, vc3, e3, -, -, -⟩ := id hv3
 subst e3
 clear hv3
 clear hb3
 have hG := hG3
 clear hG3
 have x0 := hG.b1.cell 0 rfl
 have x1 := hG.b1.cell 1 rfl
 have y0 := hG.b2.cell 0 rfl
 have y1 := hG.b2.cell 1 rfl
 go_wp2_with fail
 refine (line_yes 5 exO _ _ hG.p1 ex_valid).mono ?_
 rintro e W4 ⟨v4, rfl, hv4, hb4⟩
 have hG4 := hG.later hb4
 have HB4 := hide hb4
 clear hG x0 x1 y0 y1
 rw [ex_line] at hv4
 have HV4 := hide hv4.at
 obtain ⟨va4, vc4, e4, -, -, -⟩ := id hv4
 subst e4
 clear hv4
 clear hb4
 have hG := hG4
 clear hG4
 have x0 := hG.b1.cell 0 rfl
 have x1 := hG.b1.cell 1 rfl
 have y0 := hG.b2.cell 0 rfl
 have y1 := hG.b2.cell 1 rfl
 go_wp2_with fail
 refine (lines_yes 5 exO _ _ hG.p1 ex_valid).mono ?_
 rintro e W5 ⟨rfl, hb5⟩
 have hG5 := hG.later hb5
 have HB5 := hide hb5
 clear hG x0 x1 y0 y1
 rw [ex_lines]
 clear hb5
 have hG := hG5
 clear hG5
 have x0 := hG.b1.cell 0 rfl
 have x1 := hG.b1.cell 1 rfl
 have y0 := hG.b2.cell 0 rfl
 have y1 := hG.b2.cell 1 rfl
 go_wp2_with fail
 refine (levels_yes 5 exO _ _ hG.p1 ex_valid).mono ?_
 rintro e W6 ⟨v6, rfl, hv6, hb6⟩
 have hG6 := hG.later hb6
 have HB6 := hide hb6
 clear hG x0 x1 y0 y1
 rw [ex_lev] at hv6
 have HV6 := hide hv6.at
 obtain ⟨va6, vc6, e6, -, -, -⟩ := id hv6
 subst e6
 clear hv6
 clear hb6
 have hG := hG6
 clear hG6
 have x0 := hG.b1.cell 0 rfl
 have x1 := hG.b1.cell 1 rfl
 have y0 := hG.b2.cell 0 rfl
 have y1 := hG.b2.cell 1 rfl
 go_wp2_with fail
 refine (chain_yes 5 exO _ _ hG.p1 ex_valid).mono ?_
 rintro e W7 ⟨v7, rfl, hv7, hb7⟩
 have hG7 := hG.later hb7
 have HB7 := hide hb7
 clear hG x0 x1 y0 y1
 rw [ex_chain] at hv7
 have HV7 := hide hv7.at
 obtain ⟨va7, vc7, e7, -, -, -⟩ := id hv7
 subst e7
 clear hv7
 clear hb7
 have hG := hG7
 clear hG7
 have x0 := hG.b1.cell 0 rfl
 have x1 := hG.b1.cell 1 rfl
 have y0 := hG.b2.cell 0 rfl
 have y1 := hG.b2.cell 1 rfl
 go_wp2_with fail
 refine (antichain_yes 5 exO _ _ hG.gl hG.p1 ex_valid).mono ?_
 rintro e W8 ⟨v8, rfl, hv8, hb8⟩
 have hG8 := hG.later hb8
 have HB8 := hide hb8
 clear hG x0 x1 y0 y1
 rw [ex_anti] at hv8
 have HV8 := hide hv8.at
 obtain ⟨va8, vc8, e8, -, -, -⟩ := id hv8
 subst e8
 clear hv8
 clear hb8
 have hG := hG8
 clear hG8
 have x0 := hG.b1.cell 0 rfl
 have x1 := hG.b1.cell 1 rfl
 have y0 := hG.b2.cell 0 rfl
 have y1 := hG.b2.cell 1 rfl
 go_wp2_with fail
 refine (cover_yes 5 exO _ _ hG.p1 ex_valid).mono ?_
 rintro e W9 ⟨v9, rfl, hv9, hb9⟩
 have hG9 := hG.later hb9
 have HB9 := hide hb9
 clear hG x0 x1 y0 y1
 obtain ⟨va9, vc9, e9, -, -, -⟩ := id hv9
 rw [ex_cover] at e9
 subst e9
 clear hv9
 clear hb9
 have hG := hG9
 clear hG9
 have x0 := hG.b1.cell 0 rfl
 have x1 := hG.b1.cell 1 rfl
 have y0 := hG.b2.cell 0 rfl
 have y1 := hG.b2.cell 1 rfl
 go_wp2_with fail
 refine (cycle_any ⟨5, oddO⟩ _ _ hG.p2).mono ?_
 rintro e W10 ⟨v10, rfl, hv10, hb10⟩
 have hG10 := hG.later hb10
 have HB10 := hide hb10
 clear hG x0 x1 y0 y1
 rw [odd_cyc] at hv10 ⊢
 have HV10 : Hid (IntsIn W10.cell? v10 [1, 2, 3]) := hide hv10.at
 obtain ⟨va10, vc10, e10, -, -, -⟩ := id HV10.out
 subst e10
 clear hv10
 clear hb10
 have hG := hG10
 clear hG10
 have x0 := hG.b1.cell 0 rfl
 have x1 := hG.b1.cell 1 rfl
 have y0 := hG.b2.cell 0 rfl
 have y1 := hG.b2.cell 1 rfl
 go_wp2_with fail
 refine (cycle_any ⟨5, exO⟩ _ _ hG.p1).mono ?_
 rintro e W11 ⟨v11, rfl, hv11, hb11⟩
 have hG11 := hG.later hb11
 have HB11 := hide hb11
 clear hG x0 x1 y0 y1
 rw [ex_cyc] at hv11 ⊢
 obtain ⟨va11, vc11, e11, -, -, -⟩ := id hv11
 subst e11
 clear hv11
 clear hb11
 have hG := hG11
 clear hG11
 have x0 := hG.b1.cell 0 rfl
 have x1 := hG.b1.cell 1 rfl
 have y0 := hG.b2.cell 0 rfl
 have y1 := hG.b2.cell 1 rfl
 go_wp2_with fail
 refine (lines_no ⟨5, oddO⟩ _ _ hG.p2 odd_valid).mono ?_
 rintro e W12 ⟨rfl, hb12⟩
 have hG12 := hG.later hb12
 have HB12 := hide hb12
 clear hG x0 x1 y0 y1
 clear hb12
 have hG := hG12
 clear hG12
 have s11 := HB12.out
 have s10 := below2 HB11.out s11
 have s9 := below2 HB10.out s10
 have s8 := below2 HB9.out s9
 have s7 := below2 HB8.out s8
 have s6 := below2 HB7.out s7
 have s5 := below2 HB6.out s6
 have s4 := below2 HB5.out s5
 have s3 := below2 HB4.out s4
 have su2 := below2 HB3.out s3
 have su1 := below2 (below2 HB2.out HU2.out) su2
 have s1 := below2 HU1.out su1
 have s2 := below2 HU2.out su2
 have hF : FinG w B1 B2 C1 C2 (.slice (some ⟨B0, 0, none⟩) 5 5) (.slice (some ⟨gb, 0, none⟩) 6 gd) (.slice va1 6 vc1) (.slice va2 4 vc2) (.slice va3 10 vc3) (.slice va4 5 vc4) (.slice va6 5 vc6) (.slice va7 3 vc7) (.slice va8 2 vc8) (.slice va10 3 vc10) W12 :=
  ⟨hG, HX1.out.later su1, HX2.out.later su2, HV1.out.below s1, HV2.out.below s2, ints_bel HV3.out s3, ints_bel HV4.out s4, ints_bel HV6.out s6, ints_bel HV7.out s7, ints_bel HV8.out s8, ints_bel HV10.out s10⟩
 have HF := hide hF
 clear s11 s10 s9 s8 s7 s6 s5 s4 s3 su2 su1 s1 s2 hG hF HB1 HB2 HB3 HB4 HB5 HB6 HB7 HB8 HB9 HB10 HB11 HB12 HU1 HU2 HX1 HX2 HV1 HV2 HV3 HV4 HV6 HV7 HV8 HV10
 have x0 := HF.out.g.b1.cell 0 rfl
 have x1 := HF.out.g.b1.cell 1 rfl
 have y0 := HF.out.g.b2.cell 0 rfl
 have y1 := HF.out.g.b2.cell 1 rfl
 have z0 := HF.out.x1.cell 0 rfl
 have z1 := HF.out.x1.cell 1 rfl
 have t0 := HF.out.x2.cell 0 rfl
 have t1 := HF.out.x2.cell 1 rfl
 go_wp2_with fail
 generalize hL11 : World.alloc W12 _ = L11
 have zL11 : L11.heap.size = W12.heap.size + 1 := by rw [← hL11]; simp
 have bL11 : Below W12.heap.size W12 L11 := by rw [← hL11]; exact bal W12 _
 have bl : Blk L11 (W12.heap.size) ((([(0, 2), (0, 3), (1, 2), (1, 3), (1, 4), (2, 3)] : List (Int × Int))).map pairC).flatten 46 := by rw [← hL11]; exact Blk.newA W12 _ (by first | rfl | simp)
 have L1b := bL11
 have L1z := zL11
 clear hL11 zL11 bL11
 have HF1 := hide (HF.out.later L1b)
 clear HF x0 x1 y0 y1 z0 z1 t0 t1 L1b L1z
 have HF := HF1
 clear HF1
 refine (same_any ⟨5, [(0, 2), (0, 3), (1, 2), (1, 3), (1, 4), (2, 3)]⟩ ⟨5, [(0, 2), (0, 3), (1, 2), (1, 3), (1, 4), (2, 3)]⟩ _ _ _ HF.out.p1 (pairs_blk bl (by decide))).mono ?_
 rintro e V1 ⟨rfl, hb⟩
 rw [show sameB ⟨5, [(0, 2), (0, 3), (1, 2), (1, 3), (1, 4), (2, 3)]⟩ ⟨5, [(0, 2), (0, 3), (1, 2), (1, 3), (1, 4), (2, 3)]⟩ = true by decide]
 have HF1 := hide (HF.out.later hb)
 clear HF hb bl
 have HF := HF1
 clear HF1
 have x0 := HF.out.g.b1.cell 0 rfl
 have x1 := HF.out.g.b1.cell 1 rfl
 have y0 := HF.out.g.b2.cell 0 rfl
 have y1 := HF.out.g.b2.cell 1 rfl
 have z0 := HF.out.x1.cell 0 rfl
 have z1 := HF.out.x1.cell 1 rfl
 have t0 := HF.out.x2.cell 0 rfl
 have t1 := HF.out.x2.cell 1 rfl
 go_wp2_with fail
 generalize hL21 : World.alloc V1 _ = L21
 have zL21 : L21.heap.size = V1.heap.size + 1 := by rw [← hL21]; simp
 have bL21 : Below V1.heap.size V1 L21 := by rw [← hL21]; exact bal V1 _
 have bl : Blk L21 (V1.heap.size) ((([(0, 2), (1, 2), (1, 4), (2, 3)] : List (Int × Int))).map pairC).flatten 46 := by rw [← hL21]; exact Blk.newA V1 _ (by first | rfl | simp)
 have L2b := bL21
 have L2z := zL21
 clear hL21 zL21 bL21
 have HF1 := hide (HF.out.later L2b)
 clear HF x0 x1 y0 y1 z0 z1 t0 t1 L2b L2z
 have HF := HF1
 clear HF1
 refine (same_any ⟨5, [(0, 2), (1, 2), (1, 4), (2, 3)]⟩ ⟨5, [(0, 2), (1, 2), (1, 4), (2, 3)]⟩ _ _ _ HF.out.p2 (pairs_blk bl (by decide))).mono ?_
 rintro e V2 ⟨rfl, hb⟩
 rw [show sameB ⟨5, [(0, 2), (1, 2), (1, 4), (2, 3)]⟩ ⟨5, [(0, 2), (1, 2), (1, 4), (2, 3)]⟩ = true by decide]
 have HF1 := hide (HF.out.later hb)
 clear HF hb bl
 have HF := HF1
 clear HF1
 have x0 := HF.out.g.b1.cell 0 rfl
 have x1 := HF.out.g.b1.cell 1 rfl
 have y0 := HF.out.g.b2.cell 0 rfl
 have y1 := HF.out.g.b2.cell 1 rfl
 have z0 := HF.out.x1.cell 0 rfl
 have z1 := HF.out.x1.cell 1 rfl
 have t0 := HF.out.x2.cell 0 rfl
 have t1 := HF.out.x2.cell 1 rfl
 go_wp2_with fail
 generalize hL31 : World.alloc V2 _ = L31
 have zL31 : L31.heap.size = V2.heap.size + 1 := by rw [← hL31]; simp
 have bL31 : Below V2.heap.size V2 L31 := by rw [← hL31]; exact bal V2 _
 have bl : Blk L31 (V2.heap.size) (([0, 1, 2, 3, 7, 15, 18, 19, 23, 31] : List Int).map (Value.int .i64)) 3 := by rw [← hL31]; exact Blk.newA V2 _ (by first | rfl | simp)
 have L3b := bL31
 have L3z := zL31
 clear hL31 zL31 bL31
 have HF1 := hide (HF.out.later L3b)
 clear HF x0 x1 y0 y1 z0 z1 t0 t1 L3b L3z
 have HF := HF1
 clear HF1
 refine (ints_any [0, 1, 2, 3, 7, 15, 18, 19, 23, 31] [0, 1, 2, 3, 7, 15, 18, 19, 23, 31] _ _ _ HF.out.i3 (ints_blk bl rfl (by decide))).mono ?_
 rintro e V3 ⟨rfl, hb⟩
 rw [show intsB [0, 1, 2, 3, 7, 15, 18, 19, 23, 31] [0, 1, 2, 3, 7, 15, 18, 19, 23, 31] = true by decide]
 have HF1 := hide (HF.out.later hb)
 clear HF hb bl
 have HF := HF1
 clear HF1
 have x0 := HF.out.g.b1.cell 0 rfl
 have x1 := HF.out.g.b1.cell 1 rfl
 have y0 := HF.out.g.b2.cell 0 rfl
 have y1 := HF.out.g.b2.cell 1 rfl
 have z0 := HF.out.x1.cell 0 rfl
 have z1 := HF.out.x1.cell 1 rfl
 have t0 := HF.out.x2.cell 0 rfl
 have t1 := HF.out.x2.cell 1 rfl
 go_wp2_with fail
 generalize hL41 : World.alloc V3 _ = L41
 have zL41 : L41.heap.size = V3.heap.size + 1 := by rw [← hL41]; simp
 have bL41 : Below V3.heap.size V3 L41 := by rw [← hL41]; exact bal V3 _
 have bl : Blk L41 (V3.heap.size) (([0, 1, 2, 3, 4] : List Int).map (Value.int .i64)) 3 := by rw [← hL41]; exact Blk.newA V3 _ (by first | rfl | simp)
 have L4b := bL41
 have L4z := zL41
 clear hL41 zL41 bL41
 have HF1 := hide (HF.out.later L4b)
 clear HF x0 x1 y0 y1 z0 z1 t0 t1 L4b L4z
 have HF := HF1
 clear HF1
 refine (ints_any [0, 1, 2, 3, 4] [0, 1, 2, 3, 4] _ _ _ HF.out.i4 (ints_blk bl rfl (by decide))).mono ?_
 rintro e V4 ⟨rfl, hb⟩
 rw [show intsB [0, 1, 2, 3, 4] [0, 1, 2, 3, 4] = true by decide]
 have HF1 := hide (HF.out.later hb)
 clear HF hb bl
 have HF := HF1
 clear HF1
 have x0 := HF.out.g.b1.cell 0 rfl
 have x1 := HF.out.g.b1.cell 1 rfl
 have y0 := HF.out.g.b2.cell 0 rfl
 have y1 := HF.out.g.b2.cell 1 rfl
 have z0 := HF.out.x1.cell 0 rfl
 have z1 := HF.out.x1.cell 1 rfl
 have t0 := HF.out.x2.cell 0 rfl
 have t1 := HF.out.x2.cell 1 rfl
 go_wp2_with fail
 generalize hL51 : World.alloc V4 _ = L51
 have zL51 : L51.heap.size = V4.heap.size + 1 := by rw [← hL51]; simp
 have bL51 : Below V4.heap.size V4 L51 := by rw [← hL51]; exact bal V4 _
 have bl : Blk L51 (V4.heap.size) (([1, 4, 0, 2, 3] : List Int).map (Value.int .i64)) 3 := by rw [← hL51]; exact Blk.newA V4 _ (by first | rfl | simp)
 have L5b := bL51
 have L5z := zL51
 clear hL51 zL51 bL51
 have HF1 := hide (HF.out.later L5b)
 clear HF x0 x1 y0 y1 z0 z1 t0 t1 L5b L5z
 have HF := HF1
 clear HF1
 refine (isline_yes 5 exO _ _ [1, 4, 0, 2, 3] _ HF.out.g.p1 (ints_blk bl rfl (by decide)) ex_valid).mono ?_
 rintro e V5 ⟨rfl, hb⟩
 rw [ex_is]
 have HF1 := hide (HF.out.later hb)
 clear HF hb bl
 have HF := HF1
 clear HF1
 have x0 := HF.out.g.b1.cell 0 rfl
 have x1 := HF.out.g.b1.cell 1 rfl
 have y0 := HF.out.g.b2.cell 0 rfl
 have y1 := HF.out.g.b2.cell 1 rfl
 have z0 := HF.out.x1.cell 0 rfl
 have z1 := HF.out.x1.cell 1 rfl
 have t0 := HF.out.x2.cell 0 rfl
 have t1 := HF.out.x2.cell 1 rfl
 go_wp2_with fail
 generalize hL61 : World.alloc V5 _ = L61
 have zL61 : L61.heap.size = V5.heap.size + 1 := by rw [← hL61]; simp
 have bL61 : Below V5.heap.size V5 L61 := by rw [← hL61]; exact bal V5 _
 have bl : Blk L61 (V5.heap.size) (([1, 2, 0, 3, 4] : List Int).map (Value.int .i64)) 3 := by rw [← hL61]; exact Blk.newA V5 _ (by first | rfl | simp)
 have L6b := bL61
 have L6z := zL61
 clear hL61 zL61 bL61
 have HF1 := hide (HF.out.later L6b)
 clear HF x0 x1 y0 y1 z0 z1 t0 t1 L6b L6z
 have HF := HF1
 clear HF1
 refine (isline_yes 5 exO _ _ [1, 2, 0, 3, 4] _ HF.out.g.p1 (ints_blk bl rfl (by decide)) ex_valid).mono ?_
 rintro e V6 ⟨rfl, hb⟩
 rw [ex_not]
 have HF1 := hide (HF.out.later hb)
 clear HF hb bl
 have HF := HF1
 clear HF1
 have x0 := HF.out.g.b1.cell 0 rfl
 have x1 := HF.out.g.b1.cell 1 rfl
 have y0 := HF.out.g.b2.cell 0 rfl
 have y1 := HF.out.g.b2.cell 1 rfl
 have z0 := HF.out.x1.cell 0 rfl
 have z1 := HF.out.x1.cell 1 rfl
 have t0 := HF.out.x2.cell 0 rfl
 have t1 := HF.out.x2.cell 1 rfl
 go_wp2_with fail
 generalize hL71 : World.alloc V6 _ = L71
 have zL71 : L71.heap.size = V6.heap.size + 1 := by rw [← hL71]; simp
 have bL71 : Below V6.heap.size V6 L71 := by rw [← hL71]; exact bal V6 _
 have bl : Blk L71 (V6.heap.size) (([0, 0, 1, 2, 1] : List Int).map (Value.int .i64)) 3 := by rw [← hL71]; exact Blk.newA V6 _ (by first | rfl | simp)
 have L7b := bL71
 have L7z := zL71
 clear hL71 zL71 bL71
 have HF1 := hide (HF.out.later L7b)
 clear HF x0 x1 y0 y1 z0 z1 t0 t1 L7b L7z
 have HF := HF1
 clear HF1
 refine (ints_any [0, 0, 1, 2, 1] [0, 0, 1, 2, 1] _ _ _ HF.out.i6 (ints_blk bl rfl (by decide))).mono ?_
 rintro e V7 ⟨rfl, hb⟩
 rw [show intsB [0, 0, 1, 2, 1] [0, 0, 1, 2, 1] = true by decide]
 have HF1 := hide (HF.out.later hb)
 clear HF hb bl
 have HF := HF1
 clear HF1
 have x0 := HF.out.g.b1.cell 0 rfl
 have x1 := HF.out.g.b1.cell 1 rfl
 have y0 := HF.out.g.b2.cell 0 rfl
 have y1 := HF.out.g.b2.cell 1 rfl
 have z0 := HF.out.x1.cell 0 rfl
 have z1 := HF.out.x1.cell 1 rfl
 have t0 := HF.out.x2.cell 0 rfl
 have t1 := HF.out.x2.cell 1 rfl
 go_wp2_with fail
 generalize hL81 : World.alloc V7 _ = L81
 have zL81 : L81.heap.size = V7.heap.size + 1 := by rw [← hL81]; simp
 have bL81 : Below V7.heap.size V7 L81 := by rw [← hL81]; exact bal V7 _
 have bl : Blk L81 (V7.heap.size) (([0, 2, 3] : List Int).map (Value.int .i64)) 3 := by rw [← hL81]; exact Blk.newA V7 _ (by first | rfl | simp)
 have L8b := bL81
 have L8z := zL81
 clear hL81 zL81 bL81
 have HF1 := hide (HF.out.later L8b)
 clear HF x0 x1 y0 y1 z0 z1 t0 t1 L8b L8z
 have HF := HF1
 clear HF1
 refine (ints_any [0, 2, 3] [0, 2, 3] _ _ _ HF.out.i7 (ints_blk bl rfl (by decide))).mono ?_
 rintro e V8 ⟨rfl, hb⟩
 rw [show intsB [0, 2, 3] [0, 2, 3] = true by decide]
 have HF1 := hide (HF.out.later hb)
 clear HF hb bl
 have HF := HF1
 clear HF1
 have x0 := HF.out.g.b1.cell 0 rfl
 have x1 := HF.out.g.b1.cell 1 rfl
 have y0 := HF.out.g.b2.cell 0 rfl
 have y1 := HF.out.g.b2.cell 1 rfl
 have z0 := HF.out.x1.cell 0 rfl
 have z1 := HF.out.x1.cell 1 rfl
 have t0 := HF.out.x2.cell 0 rfl
 have t1 := HF.out.x2.cell 1 rfl
 go_wp2_with fail
 generalize hL91 : World.alloc V8 _ = L91
 have zL91 : L91.heap.size = V8.heap.size + 1 := by rw [← hL91]; simp
 have bL91 : Below V8.heap.size V8 L91 := by rw [← hL91]; exact bal V8 _
 have bl : Blk L91 (V8.heap.size) (([0, 1] : List Int).map (Value.int .i64)) 3 := by rw [← hL91]; exact Blk.newA V8 _ (by first | rfl | simp)
 have L9b := bL91
 have L9z := zL91
 clear hL91 zL91 bL91
 have HF1 := hide (HF.out.later L9b)
 clear HF x0 x1 y0 y1 z0 z1 t0 t1 L9b L9z
 have HF := HF1
 clear HF1
 refine (ints_any [0, 1] [0, 1] _ _ _ HF.out.i8 (ints_blk bl rfl (by decide))).mono ?_
 rintro e V9 ⟨rfl, hb⟩
 rw [show intsB [0, 1] [0, 1] = true by decide]
 have HF1 := hide (HF.out.later hb)
 clear HF hb bl
 have HF := HF1
 clear HF1
 have x0 := HF.out.g.b1.cell 0 rfl
 have x1 := HF.out.g.b1.cell 1 rfl
 have y0 := HF.out.g.b2.cell 0 rfl
 have y1 := HF.out.g.b2.cell 1 rfl
 have z0 := HF.out.x1.cell 0 rfl
 have z1 := HF.out.x1.cell 1 rfl
 have t0 := HF.out.x2.cell 0 rfl
 have t1 := HF.out.x2.cell 1 rfl
 go_wp2_with fail
 generalize hL101 : World.alloc V9 _ = L101
 have zL101 : L101.heap.size = V9.heap.size + 1 := by rw [← hL101]; simp
 have bL101 : Below V9.heap.size V9 L101 := by rw [← hL101]; exact bal V9 _
 have bl : Blk L101 (V9.heap.size) (([1, 2, 3] : List Int).map (Value.int .i64)) 3 := by rw [← hL101]; exact Blk.newA V9 _ (by first | rfl | simp)
 have L10b := bL101
 have L10z := zL101
 clear hL101 zL101 bL101
 have HF1 := hide (HF.out.later L10b)
 clear HF x0 x1 y0 y1 z0 z1 t0 t1 L10b L10z
 have HF := HF1
 clear HF1
 refine (ints_any [1, 2, 3] [1, 2, 3] _ _ _ HF.out.i10 (ints_blk bl rfl (by decide))).mono ?_
 rintro e V10 ⟨rfl, hb⟩
 rw [show intsB [1, 2, 3] [1, 2, 3] = true by decide]
 have HF1 := hide (HF.out.later hb)
 clear HF hb bl
 have HF := HF1
 clear HF1
 have x0 := HF.out.g.b1.cell 0 rfl
 have x1 := HF.out.g.b1.cell 1 rfl
 have y0 := HF.out.g.b2.cell 0 rfl
 have y1 := HF.out.g.b2.cell 1 rfl
 have z0 := HF.out.x1.cell 0 rfl
 have z1 := HF.out.x1.cell 1 rfl
 have t0 := HF.out.x2.cell 0 rfl
 have t1 := HF.out.x2.cell 1 rfl
 go_wp2_with fail
 refine (valid_any ⟨5, exO⟩ _ _ HF.out.g.p1).mono ?_
 rintro e V11 ⟨rfl, hb⟩
 rw [ex_valid]
 have HF1 := hide (HF.out.later hb)
 clear HF hb x0 x1 y0 y1 z0 z1 t0 t1
 have HF := HF1
 clear HF1
 have x0 := HF.out.g.b1.cell 0 rfl
 have x1 := HF.out.g.b1.cell 1 rfl
 have y0 := HF.out.g.b2.cell 0 rfl
 have y1 := HF.out.g.b2.cell 1 rfl
 have z0 := HF.out.x1.cell 0 rfl
 have z1 := HF.out.x1.cell 1 rfl
 have t0 := HF.out.x2.cell 0 rfl
 have t1 := HF.out.x2.cell 1 rfl
 go_wp2_with fail
 refine (valid_any ⟨5, oddO⟩ _ _ HF.out.g.p2).mono ?_
 rintro e V12 ⟨rfl, hb⟩
 rw [odd_valid]
 have HF1 := hide (HF.out.later hb)
 clear HF hb x0 x1 y0 y1 z0 z1 t0 t1
 have HF := HF1
 clear HF1
 have x0 := HF.out.g.b1.cell 0 rfl
 have x1 := HF.out.g.b1.cell 1 rfl
 have y0 := HF.out.g.b2.cell 0 rfl
 have y1 := HF.out.g.b2.cell 1 rfl
 have z0 := HF.out.x1.cell 0 rfl
 have z1 := HF.out.x1.cell 1 rfl
 have t0 := HF.out.x2.cell 0 rfl
 have t1 := HF.out.x2.cell 1 rfl
 go_wp2_with fail
 refine (formed_any ⟨5, oddO⟩ _ _ HF.out.g.p2).mono ?_
 rintro e V13 ⟨rfl, hb⟩
 rw [odd_formed]
 have HF1 := hide (HF.out.later hb)
 clear HF hb x0 x1 y0 y1 z0 z1 t0 t1
 have HF := HF1
 clear HF1
 have x0 := HF.out.g.b1.cell 0 rfl
 have x1 := HF.out.g.b1.cell 1 rfl
 have y0 := HF.out.g.b2.cell 0 rfl
 have y1 := HF.out.g.b2.cell 1 rfl
 have z0 := HF.out.x1.cell 0 rfl
 have z1 := HF.out.x1.cell 1 rfl
 have t0 := HF.out.x2.cell 0 rfl
 have t1 := HF.out.x2.cell 1 rfl
 go_wp2_with fail
 refine (formed_any ⟨9, []⟩ _ _ (RecIn.nil _)).mono ?_
 rintro e V14 ⟨rfl, hb⟩
 rw [nine_formed]
 have HF1 := hide (HF.out.later hb)
 clear HF hb x0 x1 y0 y1 z0 z1 t0 t1
 have HF := HF1
 clear HF1
 have x0 := HF.out.g.b1.cell 0 rfl
 have x1 := HF.out.g.b1.cell 1 rfl
 have y0 := HF.out.g.b2.cell 0 rfl
 have y1 := HF.out.g.b2.cell 1 rfl
 have z0 := HF.out.x1.cell 0 rfl
 have z1 := HF.out.x1.cell 1 rfl
 have t0 := HF.out.x2.cell 0 rfl
 have t1 := HF.out.x2.cell 1 rfl
 go_wp2_with fail
 refine (before_any ⟨5, exO⟩ _ 1 3 _ HF.out.g.p1).mono ?_
 rintro e V15 ⟨rfl, hb⟩
 rw [ex_b13]
 have HF1 := hide (HF.out.later hb)
 clear HF hb x0 x1 y0 y1 z0 z1 t0 t1
 have HF := HF1
 clear HF1
 have x0 := HF.out.g.b1.cell 0 rfl
 have x1 := HF.out.g.b1.cell 1 rfl
 have y0 := HF.out.g.b2.cell 0 rfl
 have y1 := HF.out.g.b2.cell 1 rfl
 have z0 := HF.out.x1.cell 0 rfl
 have z1 := HF.out.x1.cell 1 rfl
 have t0 := HF.out.x2.cell 0 rfl
 have t1 := HF.out.x2.cell 1 rfl
 go_wp2_with fail
 refine (before_any ⟨5, exO⟩ _ 3 1 _ HF.out.g.p1).mono ?_
 rintro e V16 ⟨rfl, hb⟩
 rw [ex_b31]
 have HF1 := hide (HF.out.later hb)
 clear HF hb x0 x1 y0 y1 z0 z1 t0 t1
 have HF := HF1
 clear HF1
 have x0 := HF.out.g.b1.cell 0 rfl
 have x1 := HF.out.g.b1.cell 1 rfl
 have y0 := HF.out.g.b2.cell 0 rfl
 have y1 := HF.out.g.b2.cell 1 rfl
 have z0 := HF.out.x1.cell 0 rfl
 have z1 := HF.out.x1.cell 1 rfl
 have t0 := HF.out.x2.cell 0 rfl
 have t1 := HF.out.x2.cell 1 rfl
 go_wp2_with fail
 refine (before_any ⟨5, exO⟩ _ 0 1 _ HF.out.g.p1).mono ?_
 rintro e V17 ⟨rfl, hb⟩
 rw [ex_b01]
 have HF1 := hide (HF.out.later hb)
 clear HF hb x0 x1 y0 y1 z0 z1 t0 t1
 have HF := HF1
 clear HF1
 have x0 := HF.out.g.b1.cell 0 rfl
 have x1 := HF.out.g.b1.cell 1 rfl
 have y0 := HF.out.g.b2.cell 0 rfl
 have y1 := HF.out.g.b2.cell 1 rfl
 have z0 := HF.out.x1.cell 0 rfl
 have z1 := HF.out.x1.cell 1 rfl
 have t0 := HF.out.x2.cell 0 rfl
 have t1 := HF.out.x2.cell 1 rfl
 go_wp2_with fail
 go_ret
 exact ⟨rfl, HF.out.g.hb⟩
end Go.Proofs.YtnidcoinfmcffaaDoor
