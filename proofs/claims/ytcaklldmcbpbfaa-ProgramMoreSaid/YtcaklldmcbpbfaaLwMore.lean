/- The walk of ProgramMore. Conditions: how the arguments lie in memory; that integers are of 64 bits. -/
import Derived.Test.YtcaklldmcbpbfaaLwB
import Derived.Test.YtcaklldmcbpbfaaPmodH
import Derived.Test.YtcaklldmcbpbfaaAppR2
import Derived.Deep.DeepCutAuto
import Derived.Deep.RegionHeld3
namespace Go.Proofs.Ytcaklldmcbpbfaa
open Go.RowKit

theorem made_one (v : Int) (t : Tri) (g : List Int) : (madeF v [t] g).rows = [mrow t (mvars v) 0] ∧ rightB (mrow t (mvars v) 0) (mvars v) = true := by
  have h := made_valid v [t] g
  refine ⟨rfl, ?_⟩
  exact valid_right (p := madeF v [t] g) h (r := mrow t (mvars v) 0) (by show _ ∈ [mrow t (mvars v) 0]; simp)
theorem news2 {W : World} {b0 : Nat} {r : List Value} {t : TypeId} (h : Blk W b0 r t) : ∀ b, (some ⟨b0, 0, none⟩ : Option Addr) = some b → ∀ j u, [r].flatten[j]? = some u → W.cell? (b.add j) = some u := fun b hb j u hj => by
  cases hb
  have h9 := h.cell j (by simpa using hj)
  cases j <;> simpa [Addr.add] using h9
theorem news1 {W : World} {r : List Value} {t : TypeId} : ∀ b, (some ⟨W.heap.size, 0, none⟩ : Option Addr) = some b → ∀ j u, [r].flatten[j]? = some u → (W.alloc (.cells r.toArray t)).cell? (b.add j) = some u := news2 (Blk.new W r t)
theorem run_field_rows (a c : Value) (p : Option Addr) (n m : Nat) (w : World) : (Instr.field 29 (.agg #[a, .slice p n m, c]) 1).run Try.prog w = .ok (.slice p n m) w := by kernel_rfl
set_option maxRecDepth 100000 in
set_option maxHeartbeats 4000000 in
theorem more_any (v : Int) (x : List Tri) (xv : Value) (g : List Int) (mo : List Int) (bits : Int) (w : World) (hv : i64B v) (hx : TrisIn w.cell? xv x) (hx64 : ∀ t ∈ x, tri64 t) (hg : g.length = 8) (hg64 : ∀ y ∈ g, i64B y) (hmo : mo.length = 3) (hmo64 : ∀ y ∈ mo, i64B y) (hb : i64B bits) :
    Calls Try.prog 6 #[.int .i64 v, xv, .agg (g.map (Value.int .i64)).toArray, .agg (mo.map (Value.int .i64)).toArray, .int .i64 bits] w (Ret (.bool true) w) := by
  obtain ⟨m0, m1, m2, rfl⟩ : ∃ a b c, mo = [a, b, c] := by
    match mo, hmo with
    | [a, b, c], _ => exact ⟨_, _, _, rfl⟩
  have h64 : tri64 (m0, m1, m2) := ⟨hmo64 m0 (by simp), hmo64 m1 (by simp), hmo64 m2 (by simp)⟩
  clear hmo hmo64
  have hgl0 := hg
  have hg640 := hg64
  obtain ⟨g0, g1, g2, g3, g4, g5, g6, g7, rfl⟩ : ∃ g0 g1 g2 g3 g4 g5 g6 g7, g = [g0, g1, g2, g3, g4, g5, g6, g7] := by
    match g, hg with
    | [a, b, c, d, e, f, g, h], _ => exact ⟨_, _, _, _, _, _, _, _, rfl⟩
  obtain ⟨xa, xn, rfl, hx1, hx2, -⟩ := id hx
  have HM := hide (fun W (h : Below w.heap.size w W) => made_any v x (.slice xa x.length xn) [g0, g1, g2, g3, g4, g5, g6, g7] W hv (TrisIn.keeps (keeps_of_below h) hx) hx64 hg hg64)
  clear hx hx64 hg hg64
  have HM2 := hide (fun W xv2 (h : TrisIn W.cell? xv2 [(m0, m1, m2)]) => made_any v [(m0, m1, m2)] xv2 [g0, g1, g2, g3, g4, g5, g6, g7] W hv h (by intro t ht; simp at ht; rw [ht]; exact h64) hgl0 hg640)
  clear hgl0 hg640
  go_enter Try.func6, Try.ntmps6
  go_wp2_with fail
  generalize hA0 : World.alloc w _ = A0
  have bG0 : Blk A0 w.heap.size ([g0, g1, g2, g3, g4, g5, g6, g7].map (Value.int .i64)) 23 := by rw [← hA0]; exact Blk.new w _ _
  have hA1 : Below w.heap.size w A0 := by rw [← hA0]; exact bal w _
  generalize hW0 : World.alloc A0 _ = W0
  have hb0 : Below w.heap.size w W0 := by rw [← hW0]; exact below2 hA1 (bal A0 _)
  have bG := bG0.old (.cells ([m0, m1, m2].map (Value.int .i64)).toArray 59)
  have bN : Blk W0 A0.heap.size ([m0, m1, m2].map (Value.int .i64)) 59 := by rw [← hW0]; exact Blk.new A0 _ _
  have hz0 : A0.heap.size = w.heap.size + 1 := by rw [← hA0]; simp
  rw [hz0] at bN
  rw [show World.alloc A0 (.cells ([m0, m1, m2].map (Value.int .i64)).toArray 59) = W0 from hW0] at bG
  clear hA0 hW0 hA1 bG0 hz0
  have bGk := bG
  refine (sane_any _).mono ?_
  rintro e w1 ⟨rfl, hb1⟩
  have bG1 := bG.later hb1
  have c0 := bG1.cell 0 rfl
  have c1 := bG1.cell 1 rfl
  have c2 := bG1.cell 2 rfl
  have c3 := bG1.cell 3 rfl
  have c4 := bG1.cell 4 rfl
  have c5 := bG1.cell 5 rfl
  have c6 := bG1.cell 6 rfl
  have c7 := bG1.cell 7 rfl
  go_wp2_with fail
  refine (HM.out _ (below2 hb0 hb1)).mono ?_
  rintro e w2 ⟨pv, rfl, hpv, hb2⟩
  clear c0 c1 c2 c3 c4 c5 c6 c7 HM bG1 bG
  obtain ⟨n, rows, gain, hmf, hn8, hr8, hV⟩ := made_form v x [g0, g1, g2, g3, g4, g5, g6, g7]
  have HNV : Hid (n = mvars v) := hide (by
    have h := congrArg ProgD.vars hmf
    have h : (mvars v : Int) = (n : Int) := h
    omega)
  rw [hmf] at hpv
  clear hmf
  obtain ⟨rv, gv, rfl, hr, hgn⟩ := hpv
  have hr2 : RowsAt w2 rv rows := hr.keeps (keeps_frm _ _)
  have hg2 : IntsAt w2 gv gain := hgn.keeps (keeps_frm _ _)
  obtain ⟨ra, rc, rfl, -, hrm, -⟩ := id hr2
  obtain ⟨ga, gc, rfl, -, hgm, -⟩ := id hg2
  have hbw2 := below2 (below2 hb0 hb1) hb2
  clear hr hgn hb0
  have b12 := below2 hb1 hb2
  have bN2 := bN.later b12
  have bG2 := bGk.later b12
  have n0 := bN2.cell 0 rfl
  have n1 := bN2.cell 1 rfl
  have n2 := bN2.cell 2 rfl
  have c0 := bG2.cell 0 rfl
  have c1 := bG2.cell 1 rfl
  have c2 := bG2.cell 2 rfl
  have c3 := bG2.cell 3 rfl
  have c4 := bG2.cell 4 rfl
  have c5 := bG2.cell 5 rfl
  have c6 := bG2.cell 6 rfl
  have c7 := bG2.cell 7 rfl
  have lN := bN2.lt
  have lG := bG2.lt
  go_wp2_with fail
  generalize hW3 : World.alloc w2 _ = W3
  have bP3 : Blk W3 w2.heap.size [.int .i64 n, .slice ra rows.length rc, .slice ga gain.length gc] 29 := by rw [← hW3]; exact Blk.new w2 _ _
  have hb3 : Below w2.heap.size w2 W3 := by rw [← hW3]; exact bal w2 _
  have hz3 : W3.heap.size = w2.heap.size + 1 := by rw [← hW3]; simp
  generalize hW4 : World.alloc W3 _ = W4
  have hb4 : Below W3.heap.size W3 W4 := by rw [← hW4]; exact bal W3 _
  have bT : Blk W4 (w2.heap.size + 1) ([m0, m1, m2].map (Value.int .i64)) 59 := by rw [← hW4, ← hz3]; exact Blk.new W3 _ _
  have hT : TrisIn W4.cell? (.slice (some ⟨w2.heap.size + 1, 0, none⟩) 1 1) [(m0, m1, m2)] := by
    refine ⟨some ⟨w2.heap.size + 1, 0, none⟩, 1, rfl, by simp, by omega, fun k hk => ⟨w2.heap.size + 1, 0, rfl, ?_⟩⟩
    obtain rfl : k = 0 := by simp at hk; omega
    exact ⟨bT.cell 0 rfl, bT.cell 1 rfl, bT.cell 2 rfl⟩
  have b34 := below2 hb3 hb4
  clear hW3 hW4 hz3 n0 n1 n2 c0 c1 c2 c3 c4 c5 c6 c7 lN lG bT bN2 bG2
  refine (HM2.out W4 _ hT).mono ?_
  rintro e w5 ⟨pv, rfl, ⟨rv2, gv2, rfl, hre, hge⟩, hb5⟩
  rw [show progV (madeF v [(m0, m1, m2)] [g0, g1, g2, g3, g4, g5, g6, g7]) rv2 gv2 = Value.agg #[.int .i64 (mvars v), rv2, gv2] from rfl]
  obtain ⟨hm1, hm2⟩ := made_one v (m0, m1, m2) [g0, g1, g2, g3, g4, g5, g6, g7]
  rw [hm1] at hre
  rw [← HNV.out] at hre hm2
  generalize mrow (m0, m1, m2) n 0 = ex at hre hm2
  obtain ⟨ra2, rc2, e2, -, -, hre2⟩ := id hre
  have e2 : rv2 = .slice ra2 1 rc2 := e2
  subst e2
  obtain ⟨xb, xo, xcv, rfl, hxr⟩ := hre2 0 (by simp)
  have hxr : RowIn w5.cell? xb xo xcv ex := by simpa using hxr.keeps (keeps_frm _ _)
  obtain ⟨y0, y1, y2, y3, y4, y5, y6⟩ := id hxr
  obtain ⟨ea, ec, rfl, -, -, -⟩ := id y6
  obtain ⟨ga2, gc2, rfl, -, -, -⟩ := id hge
  have bP5 := (bP3.later hb4).later hb5
  have hr5 := hr2.below (below2 b34 hb5)
  have hg5 := hg2.below (below2 b34 hb5)
  have hbw5 := below2 hbw2 (below2 b34 hb5)
  have p0 := bP5.cell 0 rfl
  have p1 := bP5.cell 1 rfl
  have p2 := bP5.cell 2 rfl
  have lP := bP5.lt
  clear hm1 hge hre hr2 hg2 hbw2 hT
  have hfd := fun (w : World) (a c : Value) (p : Option Addr) (n m : Nat) => run_field_rows a c p n m w
  go_wp2_with fail
  clear hfd
  generalize hW6 : World.alloc w5 _ = W6
  have bE : Blk W6 w5.heap.size (rowCells ex (.slice ea ex.coef.length ec)) 26 := by rw [← hW6]; exact Blk.new w5 _ _
  have hb6 : Below w5.heap.size w5 W6 := by rw [← hW6]; exact bal w5 _
  have hz6 : W6.heap.size = w5.heap.size + 1 := by rw [← hW6]; simp
  generalize hW7 : World.alloc W6 _ = W7
  have bQ : Blk W7 W6.heap.size [.int .i64 n, .slice ra rows.length rc, .slice ga gain.length gc] 29 := by rw [← hW7]; exact Blk.new W6 _ _
  have hb7 : Below W6.heap.size W6 W7 := by rw [← hW7]; exact bal W6 _
  have hb67 := below2 hb6 hb7
  have bE7 := bE.later hb7
  have bP7 := bP5.later hb67
  have y7 : IntsAt W7 (.slice ea ex.coef.length ec) ex.coef := IntsIn.keeps (keeps_of_below hb67) y6
  have hr7 := hr5.below hb67
  have hg7 := hg5.below hb67
  have hbw7 := below2 hbw5 hb67
  clear hW6 hW7 y0 y1 y2 y3 y4 y5 p0 p1 p2 hxr lP
  obtain ⟨Lr, hLl, hL6, hLone, hLs, -, hLt⟩ := rows_from (RowsAt.to hr5)
  have hLt2 := hLt rows.length
  rw [List.take_of_length_le (Nat.le_of_eq hLl)] at hLt2
  have HLl := hide hLl
  have HLs := hide hLs
  have HLt := hide hLt2
  have HL6 := hide hL6
  have HLone := hide hLone
  have hLr8 : Lr.length ≤ 8 := by rw [hLl]; exact hr8
  clear hLl hL6 hLone hLs hLt hLt2
  have p1 := bP7.cell 1 rfl
  have e0 := bE7.cell 0 rfl
  have e1 := bE7.cell 1 rfl
  have e2 := bE7.cell 2 rfl
  have e3 := bE7.cell 3 rfl
  have e4 := bE7.cell 4 rfl
  have e5 := bE7.cell 5 rfl
  have lP7 : w2.heap.size < W6.heap.size := by have := bP5.lt; omega
  have lE7 : w5.heap.size < W6.heap.size := by omega
  have lQ7 : W6.heap.size < W7.heap.size := bQ.lt
  have HS : Hid (∀ W, Below W6.heap.size W7 W → W.cell? ⟨w2.heap.size, 1, none⟩ = some (.slice ra rows.length rc) ∧ W.cell? ⟨w5.heap.size, 0, none⟩ = some (.int .i64 ex.kind) ∧ W.cell? ⟨w5.heap.size, 1, none⟩ = some (.int .i64 ex.a) ∧ W.cell? ⟨w5.heap.size, 2, none⟩ = some (.int .i64 ex.b) ∧ W.cell? ⟨w5.heap.size, 3, none⟩ = some (.int .i64 ex.at_) ∧ W.cell? ⟨w5.heap.size, 4, none⟩ = some (.slice ea ex.coef.length ec) ∧ W.cell? ⟨w5.heap.size, 5, none⟩ = some (.int .i64 ex.most)) :=
    hide fun W h => ⟨(h.cell (p := ⟨w2.heap.size, 1, none⟩) lP7).trans p1, (h.cell (p := ⟨w5.heap.size, 0, none⟩) lE7).trans e0, (h.cell (p := ⟨w5.heap.size, 1, none⟩) lE7).trans e1, (h.cell (p := ⟨w5.heap.size, 2, none⟩) lE7).trans e2, (h.cell (p := ⟨w5.heap.size, 3, none⟩) lE7).trans e3, (h.cell (p := ⟨w5.heap.size, 4, none⟩) lE7).trans e4, (h.cell (p := ⟨w5.heap.size, 5, none⟩) lE7).trans e5⟩
  have HM9 : Hid (∀ (W9 : World) a9 c9 u, OwnR W9 W7.heap.size 26 6 (.slice a9 (rows.length + 1) c9) ([] ++ Lr ++ [rowCells ex (.slice ea ex.coef.length ec)]) → Below W7.heap.size W7 W9 → RowsMix (W9.setCell ⟨W6.heap.size, 1, none⟩ u) W7.heap.size W6.heap.size (.slice a9 (rows.length + 1) c9) (rows ++ [ex])) := hide fun W9 a9 c9 u hO hb => by
    have hlow : ∀ {cv : Value} {l : List Int}, IntsAt w5 cv l → IntsIn (rng 0 W6.heap.size W9) cv l := fun h =>
      (ints_low (C := W6.heap.size) hb6.size h).keeps fun a q hq => by
        unfold rng at hq ⊢
        split at hq
        · rename_i h1
          rw [if_pos h1]
          exact (hb.cell (Nat.lt_trans h1.2 lQ7)).trans (keep hb67 hq)
        · cases hq
    have hM : RowsMix W9 W7.heap.size W6.heap.size (.slice a9 (rows.length + 1) c9) (rows ++ [ex]) := by
      refine ⟨_, hO, by simp [HLl.out], fun i hi => ?_⟩
      rw [List.nil_append]
      rcases Nat.lt_or_ge i rows.length with h1 | h1
      · obtain ⟨cv, e, hc⟩ := HLs.out i h1
        rw [getD_app_left _ _ _ _ (by rw [HLl.out]; exact h1), getD_app_left _ _ _ _ h1]
        exact ⟨cv, e, hlow hc⟩
      · have hi' : i = rows.length := by simp at hi; omega
        subst hi'
        rw [getD_app_right _ _ _ _ (by rw [HLl.out]; exact Nat.le_refl _), getD_app_right _ _ _ _ (Nat.le_refl _), HLl.out, Nat.sub_self]
        exact ⟨_, rfl, hlow y6⟩
    exact hM.setO (Nat.le_refl _) lQ7 u
  have H0 := hide (lit_recs W7 26 6 (Nat.le_refl _))
  have hzC1 : (W7.alloc (.cells (rowCells ex (.slice ea ex.coef.length ec)).toArray 26)).heap.size = W7.heap.size + 1 := by simp
  have hzC0 : (W7.alloc (.cells #[] 26)).heap.size = W7.heap.size + 1 := by simp
  have h1' := lit_recs (W7.alloc (.cells (rowCells ex (.slice ea ex.coef.length ec)).toArray 26)) 26 6 (B := W7.heap.size) (by simp)
  rw [hzC1] at h1'
  have H1 := hide h1'
  have hc1' := Blk.new (W7.alloc (.cells #[] 26)) (rowCells ex (.slice ea ex.coef.length ec)) 26
  rw [hzC0] at hc1'
  have HC0 := hide (Blk.new W7 (rowCells ex (.slice ea ex.coef.length ec)) 26)
  have HC1 := hide hc1'
  clear h1' hc1' hzC0 hzC1
  have bdw : ∀ W : World, Below W.heap.size W W.drew := fun W => (Below.refl _ _).drew
  have HDW := hide bdw
  have HNE0 : Hid (Value.ownBlock (.slice (some ⟨W7.heap.size, 0, none⟩) 0 0) ≠ some (W7.heap.size + 1)) := hide (by simp [Value.ownBlock])
  have HNE1 : Hid (Value.ownBlock (.slice (some ⟨W7.heap.size + 1, 0, none⟩) 0 0) ≠ some W7.heap.size) := hide (by simp [Value.ownBlock])
  have HONE : Hid (∀ u ∈ [rowCells ex (.slice ea ex.coef.length ec)].flatten, u.oneCell' = true) := hide fun u hu => rowCells_one u (by simpa using hu)
  have HSIX : Hid (∀ r ∈ [rowCells ex (.slice ea ex.coef.length ec)], r.length = 6) := hide fun r hr => by simp at hr; rw [hr]; rfl
  have HN64 : Hid ((([] ++ Lr).length + [rowCells ex (.slice ea ex.coef.length ec)].length) * 64 ≤ 140737488355328) := hide (by simp; omega)
  have HN8 : Hid (([] ++ Lr).length + [rowCells ex (.slice ea ex.coef.length ec)].length < 1000000) := hide (by simp; omega)
  have HN1 : Hid (([] ++ Lr ++ [rowCells ex (.slice ea ex.coef.length ec)]).length = rows.length + 1) := hide (by rw [← HLl.out]; simp)
  clear bdw p1 e0 e1 e2 e3 e4 e5
  rw [← hz6]
  clear hz6
  go_cut [14] (fun s wx => s = .pointer (some ⟨W6.heap.size, 0, none⟩) ∧ ∃ a9 c9, Blk wx W6.heap.size [.int .i64 n, .slice a9 (rows.length + 1) c9, .slice ga gain.length gc] 29 ∧ RowsMix wx W7.heap.size W6.heap.size (.slice a9 (rows.length + 1) c9) (rows ++ [ex]) ∧ Below W6.heap.size W7 wx ∧ W7.heap.size ≤ wx.heap.size)
  case first =>
    go_region_held3 (fun w' => w'.cell? ⟨w2.heap.size, 1, none⟩ = some (.slice ra rows.length rc) ∧ w'.cell? ⟨w5.heap.size, 0, none⟩ = some (.int .i64 ex.kind) ∧ w'.cell? ⟨w5.heap.size, 1, none⟩ = some (.int .i64 ex.a) ∧ w'.cell? ⟨w5.heap.size, 2, none⟩ = some (.int .i64 ex.b) ∧ w'.cell? ⟨w5.heap.size, 3, none⟩ = some (.int .i64 ex.at_) ∧ w'.cell? ⟨w5.heap.size, 4, none⟩ = some (.slice ea ex.coef.length ec) ∧ w'.cell? ⟨w5.heap.size, 5, none⟩ = some (.int .i64 ex.most))
      (first | exact HS.out _ ((Below.refl _ _).drew) | exact HS.out _ (((bal W7 _).trans (HDW.out _ |>.mono (by simp))).mono (Nat.le_of_lt lQ7)) | exact HS.out _ ((((bal W7 _).trans ((bal _ _).mono (by simp))).trans ((HDW.out _).mono (by simp; omega))).mono (Nat.le_of_lt lQ7)) | exact HS.out _ (hb8.mono (Nat.le_of_lt lQ7)) | exact HS.out _ ((hb8.trans ((bal W8 _).mono hb8.size)).mono (Nat.le_of_lt lQ7)) | exact HS.out _ (hb9.mono (Nat.le_of_lt lQ7)) | exact HS.out _ ((hb9.mono (Nat.le_of_lt lQ7)).setCell (p := ⟨W6.heap.size, 1, none⟩) (Nat.le_refl _) _))
      (first
        | (refine step_app_recs2 infoRow rfl (by decide) Try.underlying27 rfl _ _ rfl W7.heap.size _ [] rfl (H0.out.later' (HDW.out _)) _ _ _ Lr HLl.out.symm rfl HL6.out HLone.out (fun b hb j u hj => keep (below2 (bal W7 _) (HDW.out _)) (keep hb67 (HLt.out.1 b hb j u hj))) HLt.out.2 (by simp only [List.length_nil, Nat.zero_add]; omega) (by simp only [List.length_nil, Nat.zero_add]; omega) (by simp) ?_; intro v8 W8 hO8 hg8; have hb8 : Below W7.heap.size W7 W8 := (below2 (bal W7 _) (HDW.out _)).trans (below_own (H0.out.later' (HDW.out _)) (by simp) hg8))
        | (refine step_app_recs2 infoRow rfl (by decide) Try.underlying27 rfl _ _ rfl W7.heap.size _ [] rfl ((H0.out.later' (bal _ _)).later' (HDW.out _)) _ _ _ Lr HLl.out.symm rfl HL6.out HLone.out (fun b hb j u hj => keep (below2 (below2 (bal W7 _) (bal _ _)) (HDW.out _)) (keep hb67 (HLt.out.1 b hb j u hj))) HLt.out.2 (by simp only [List.length_nil, Nat.zero_add]; omega) (by simp only [List.length_nil, Nat.zero_add]; omega) (by simp; omega) ?_; intro v8 W8 hO8 hg8; have hb8 : Below W7.heap.size W7 W8 := (below2 (below2 (bal W7 _) (bal _ _)) (HDW.out _)).trans (below_own ((H0.out.later' (bal _ _)).later' (HDW.out _)) (by simp; omega) hg8); have bC8 := (HC1.out.later (HDW.out _)).grown hg8 HNE0.out)
        | (refine step_app_recs2 infoRow rfl (by decide) Try.underlying27 rfl _ _ rfl W7.heap.size _ [] rfl (H1.out.later' (HDW.out _)) _ _ _ Lr HLl.out.symm rfl HL6.out HLone.out (fun b hb j u hj => keep (below2 (below2 (bal W7 _) (bal _ _)) (HDW.out _)) (keep hb67 (HLt.out.1 b hb j u hj))) HLt.out.2 (by simp only [List.length_nil, Nat.zero_add]; omega) (by simp only [List.length_nil, Nat.zero_add]; omega) (by simp; omega) ?_; intro v8 W8 hO8 hg8; have hb8 : Below W7.heap.size W7 W8 := (below2 (below2 (bal W7 _) (bal _ _)) (HDW.out _)).trans (below_own (H1.out.later' (HDW.out _)) (by simp; omega) hg8); have bC8 := ((HC0.out.old _).later (HDW.out _)).grown hg8 HNE1.out)
        | (refine step_app_recs2 infoRow rfl (by decide) Try.underlying27 rfl _ _ rfl W7.heap.size v8 _ rfl (hO8.later' (bal W8 _)) _ 1 1 [rowCells ex (.slice ea ex.coef.length ec)] rfl rfl HSIX.out HONE.out news1 (fun e => by cases e) HN64.out HN8.out (by have := hb8.size; simp; omega) ?_; intro v9 W9 hO9 hg9; have hb9 : Below W7.heap.size W7 W9 := (hb8.trans ((bal W8 _).mono hb8.size)).trans (below_own (hO8.later' (bal W8 _)) (by have := hb8.size; simp; omega) hg9); obtain ⟨a9, c9, rfl⟩ := own_form hO9 (n := rows.length + 1) HN1.out; have bQ9 := bQ.below hb9 lQ7; have q1 := bQ9.cell 1 rfl; have f1 := bQ9.frozen 1)
        | (refine step_app_recs2 infoRow rfl (by decide) Try.underlying27 rfl _ _ rfl W7.heap.size v8 _ rfl hO8 _ 1 1 [rowCells ex (.slice ea ex.coef.length ec)] rfl rfl HSIX.out HONE.out (news2 bC8) (fun e => by cases e) HN64.out HN8.out hb8.size ?_; intro v9 W9 hO9 hg9; have hb9 : Below W7.heap.size W7 W9 := hb8.trans (below_own hO8 hb8.size hg9); obtain ⟨a9, c9, rfl⟩ := own_form hO9 (n := rows.length + 1) HN1.out; have bQ9 := bQ.below hb9 lQ7; have q1 := bQ9.cell 1 rfl; have f1 := bQ9.frozen 1))
    all_goals
      have hM9 := HM9.out W9 a9 c9 (.slice a9 (rows.length + 1) c9) hO9 hb9
      go_wp2_with fail
      go_meet
      exact ⟨rfl, a9, c9, bQ9.set 1 _, hM9, (hb9.mono (Nat.le_of_lt lQ7)).setCell (p := ⟨W6.heap.size, 1, none⟩) (Nat.le_refl _) _, by have := hb9.size; simpa [World.setCell] using this⟩
  case rest =>
    obtain ⟨rfl, a9, c9, bQ9, hM9, hb9, hz9⟩ := hcut
    obtain ⟨W9, rfl⟩ : ∃ W : World, W = wc := ⟨_, rfl⟩
    have h59 : Below w5.heap.size w5 W9 := hb67.trans (hb9.mono hb6.size)
    have bP9 := bP7.below hb9 lP7
    have bE9 := bE7.below hb9 lE7
    have hr9 := hr5.below h59
    have hg9 := hg5.below h59
    have y9 : IntsAt W9 (.slice ea ex.coef.length ec) ex.coef := IntsIn.keeps (keeps_of_below h59) y6
    have hMr9 := hM9.rows
    have hbw9 := below2 hbw5 h59
    obtain ⟨bb, hbb, hbb2⟩ : ∃ A : Nat, pickF bits 256 = A ∧ A < 256 := ⟨(pickF bits 256).toNat, by have := pickF_nonneg bits (n := 256) (by decide); omega, by have := pickF_lt bits (n := 256) (by decide); omega⟩
    have HBB := hide hbb
    have HEX := hide hm2
    have HV := hide hV
    have hmq := more_valid (x := ex) hV hm2 hr8
    have HVQ := hide hmq
    clear hbb hm2 hV hmq
    go_wp2_with fail
    go_loopw [15, 16] (fun o i wr => ∃ k : Nat, k ≤ rows.length ∧ i = .int .i64 k ∧ OwnI wr W9.heap.size o (bitsUp bb k) ∧ Below W9.heap.size W9 wr) (fun _ i _ => rows.length - (intOf i).toNat)
    case atStart => exact ⟨0, by omega, rfl, OwnI.nil _ _, Below.refl _ _⟩
    case round =>
      obtain ⟨k, hk, rfl, hown, hbr⟩ := hrel
      have bPr := bP9.later hbr
      have p1 := bPr.cell 1 rfl
      by_cases hlt : k < rows.length
      · have hlek := bitsUp_le bb k
        have hzr := hbr.size
        have HY := hide (bitsUp_yes (b := bb) (k := k))
        have HN := hide (bitsUp_no (b := bb) (k := k))
        go_wp2_with fail
        refine (pickl_any bits 256 _ hb.1 hb.2 (by decide) (by decide)).mono ?_
        rintro e w10 ⟨rfl, hw10⟩
        obtain rfl := hw10.symm
        rw [HBB.out]
        by_cases hbit : bb / 2 ^ k % 2 = 1
        · have HBIT := hide (HY.out hbit)
          have ht1 : (((bb : Int) / 2 ^ k).tmod 2 == 1) = true := by rw [shr_cast, tmod_cast, hbit]; rfl
          clear hbit
          go_wp2_with (at_builtin; refine app_int rfl _ _ rfl W9.heap.size _ _ rfl hown k rfl (by omega) hzr ?_; intro v' w3 hown3 hb3' hz3')
          go_roundw
          case rel => exact ⟨k + 1, by omega, by go_num, by rw [HBIT.out]; exact hown3, hbr.trans hb3'⟩
          case measure => simp [intOf]; omega
        · have HBIT := hide (HN.out hbit)
          have ht1 : (((bb : Int) / 2 ^ k).tmod 2 == 1) = false := by
            rw [shr_cast, tmod_cast, beq_eq_false_iff_ne]; omega
          clear hbit
          go_wp2_with fail
          go_roundw
          case rel => exact ⟨k + 1, by omega, by go_num, by rw [HBIT.out]; exact hown, hbr⟩
          case measure => simp [intOf]; omega
      · obtain rfl : k = rows.length := by omega
        have p0 := bPr.cell 0 rfl
        have p2 := bPr.cell 2 rfl
        have hlv := hown.ints
        obtain ⟨oa, oc, rfl, -, -, -⟩ := id hlv
        have hrr := hr9.below hbr
        have hgr := hg9.below hbr
        have hMr := hM9.rows.below hbr
        have bQr := bQ9.later hbr
        have bEr := bE9.later hbr
        have yr : IntsAt wr _ _ := IntsIn.keeps (keeps_of_below hbr) y9
        have hbwr := below2 hbw9 hbr
        obtain ⟨hwF, hwE⟩ := without_form HV.out bb
        have HWF := hide hwF
        have HWE := hide hwE
        have HWV := hide (without_valid HV.out bb)
        have HKL := hide (kept_len rows bb rows.length (Nat.le_refl _))
        have HSUB := hide (fun s => good_less (vars := n) (l := rows) (g := gain) bb (s := s))
        clear hwF hwE hown bP9 bQ9 bE9 hr9 hg9 hM9 y9 hbw9 hbr
        go_wp2_with fail
        refine (without_any ⟨n, rows, gain⟩ _ _ _ (bitsUp bb rows.length) wr hrr hgr hlv (by show rows.length < 1000000; omega)).mono ?_
        rintro e w11 ⟨pv, u, rfl, ⟨hpv, rfl⟩, hb11⟩
        rw [HWF.out] at hpv
        rw [HWE.out]
        obtain ⟨wv, wg, rfl, hwr0, hwg0⟩ := hpv
        have hwr : RowsAt w11 _ _ := hwr0.keeps (keeps_frm _ _)
        have hwg : IntsAt w11 _ _ := hwg0.keeps (keeps_frm _ _)
        obtain ⟨wa, wcc, rfl, -, -, -⟩ := id hwr
        obtain ⟨wga, wgc, rfl, -, -, -⟩ := id hwg
        clear hwr0 hwg0
        rw [show progV (⟨n, keptUp rows (bitsUp bb rows.length) rows.length, gain⟩ : ProgD) (.slice wa (keptUp rows (bitsUp bb rows.length) rows.length).length wcc) (.slice wga gain.length wgc) = Value.agg #[.int .i64 n, .slice wa (keptUp rows (bitsUp bb rows.length) rows.length).length wcc, .slice wga gain.length wgc] from rfl]
        generalize hkr : keptUp rows (bitsUp bb rows.length) rows.length = kr at hwr HWV HKL HSUB ⊢
        have bP11 := bPr.later hb11
        have t0 := bP11.cell 0 rfl
        have t1 := bP11.cell 1 rfl
        have t2 := bP11.cell 2 rfl
        have ql := bP11.lt
        have hle' := bitsUp_le bb rows.length
        have hor2 : IntsAt w11 _ _ := hlv.below hb11
        clear hkr p0 p1 p2
        go_wp2_with fail
        generalize hS1 : World.alloc w11 _ = A11
        have bW : Blk A11 w11.heap.size [.int .i64 n, .slice wa kr.length wcc, .slice wga gain.length wgc] 29 := by rw [← hS1]; exact Blk.new w11 _ _
        have hbA : Below w11.heap.size w11 A11 := by rw [← hS1]; exact bal w11 _
        clear hS1 t0 t1 t2 ql
        have b1 := below2 hb11 hbA
        have hwr := hwr.below hbA
        have hwg := hwg.below hbA
        have HA := errF_in HV.out
        have HAQ := errF_in HVQ.out
        have HAW := errF_in HWV.out
        have HEA := hide HA
        have HEQ := hide HAQ
        have HEW := hide HAW
        clear HA HAQ HAW
        have HFA : Hid (allF ⟨n, rows, gain⟩ = (goodF ⟨n, rows, gain⟩).map fun (s : Nat) => (s : Int)) := hide (by unfold allF; rw [HV.out]; rfl)
        have HFQ : Hid (allF ⟨n, rows ++ [ex], gain⟩ = ((goodF ⟨n, rows, gain⟩).filter (keptB ex)).map fun (s : Nat) => (s : Int)) := hide (by unfold allF; rw [HVQ.out, good_more]; rfl)
        have HFW : Hid (allF ⟨n, kr, gain⟩ = (goodF ⟨n, kr, gain⟩).map fun (s : Nat) => (s : Int)) := hide (by unfold allF; rw [HWV.out]; rfl)
        refine (all_any ⟨n, rows, gain⟩ _ _ A11 (hrr.below b1) (hgr.below b1)).mono ?_
        rintro e w12 ⟨av, u, rfl, ⟨hav0, rfl⟩, hb12⟩
        rw [HEA.out]
        rw [HFA.out] at hav0
        have hav : IntsAt w12 _ _ := hav0.keeps (keeps_frm _ _)
        have b2 := below2 b1 hb12
        have bQ12 := bQr.later b2
        have t0 := bQ12.cell 0 rfl
        have t1 := bQ12.cell 1 rfl
        have t2 := bQ12.cell 2 rfl
        obtain ⟨aa, ac, rfl, -, -, -⟩ := id hav
        go_wp2_with fail
        refine (all_any ⟨n, rows ++ [ex], gain⟩ (.slice a9 (rows.length + 1) c9) _ w12 (hMr.below b2) (hgr.below b2)).mono ?_
        rintro e w13 ⟨bv, u, rfl, ⟨hbv0, rfl⟩, hb13⟩
        rw [HEQ.out]
        rw [HFQ.out] at hbv0
        have hbv : IntsAt w13 _ _ := hbv0.keeps (keeps_frm _ _)
        have b3 := below2 b2 hb13
        have bW13 := bW.later (below2 hb12 hb13)
        obtain ⟨ba, bc, rfl, -, -, -⟩ := id hbv
        clear t0 t1 t2
        have t0 := bW13.cell 0 rfl
        have t1 := bW13.cell 1 rfl
        have t2 := bW13.cell 2 rfl
        go_wp2_with fail
        refine (all_any ⟨n, kr, gain⟩ _ _ w13 (hwr.below (below2 hb12 hb13)) (hwg.below (below2 hb12 hb13))).mono ?_
        rintro e w14 ⟨cv, u, rfl, ⟨hcv0, rfl⟩, hb14⟩
        rw [HEW.out]
        rw [HFW.out] at hcv0
        have hcv : IntsAt w14 _ _ := hcv0.keeps (keeps_frm _ _)
        have b4 := below2 b3 hb14
        obtain ⟨ca, cc, rfl, -, -, -⟩ := id hcv
        have bP14 := bPr.later b4
        clear t0 t1 t2
        have t0 := bP14.cell 0 rfl
        have t1 := bP14.cell 1 rfl
        have t2 := bP14.cell 2 rfl
        go_wp2_with fail
        refine (solve_any ⟨n, rows, gain⟩ _ _ w14 (hrr.below b4) (hgr.below b4)).mono ?_
        rintro e w15 ⟨sv, u, rfl, ⟨⟨pv, rfl, hpv⟩, rfl⟩, hb15⟩
        obtain ⟨pa, pn, rfl, -, -, -⟩ := hpv
        obtain ⟨d1, d2, d3, -⟩ := solveF_in HV.out
        rw [d1, d2, d3, HEA.out]
        clear d1 d2 d3
        generalize (solveF ⟨n, rows, gain⟩).proof.length = pl
        have HMO := hide (best_more (n := n) (l := rows) (x := ex) (g := gain))
        generalize bestF ⟨n, rows, gain⟩ = b0 at HMO ⊢
        obtain ⟨sf, ss, sg⟩ := b0
        have b5 := below2 b4 hb15
        have bQ15 := bQr.later b5
        clear t0 t1 t2
        have t0 := bQ15.cell 0 rfl
        have t1 := bQ15.cell 1 rfl
        have t2 := bQ15.cell 2 rfl
        have ql := bQ15.lt
        go_wp2_with fail
        generalize hS1 : World.alloc w15 _ = A15
        have bS : Blk A15 w15.heap.size [.bool sf, .int .i64 ss, .int .i64 sg, .slice pa pl pn] 37 := by rw [← hS1]; exact Blk.new w15 _ _
        have hbA' : Below w15.heap.size w15 A15 := by rw [← hS1]; exact bal w15 _
        clear hS1 t0 t1 t2 ql
        have b6 := below2 b5 hbA'
        refine (solve_any ⟨n, rows ++ [ex], gain⟩ (.slice a9 (rows.length + 1) c9) _ A15 (hMr.below b6) (hgr.below b6)).mono ?_
        rintro e w16 ⟨sv, u, rfl, ⟨⟨pv, rfl, hpv⟩, rfl⟩, hb16⟩
        obtain ⟨pa', pn', rfl, -, -, -⟩ := hpv
        obtain ⟨d1, d2, d3, -⟩ := solveF_in HVQ.out
        rw [d1, d2, d3, HEQ.out]
        clear d1 d2 d3
        generalize (solveF ⟨n, rows ++ [ex], gain⟩).proof.length = pl'
        generalize bestF ⟨n, rows ++ [ex], gain⟩ = b0 at HMO ⊢
        obtain ⟨tf, ts, tg⟩ := b0
        have b7 := below2 b6 hb16
        have hKL2 : kr.length + (bitsUp bb rows.length).length = rows.length := HKL.out
        have hkle : ((kr.length : Int) != (rows.length : Int) - ((bitsUp bb rows.length).length : Int)) = false := by
          rw [bne_eq_false_iff_eq]; omega
        have HKL3 := hide hKL2
        have bW16 := bW.later (below2 (below2 (below2 hb12 hb13) (below2 hb14 hb15)) (below2 hbA' hb16))
        have bP16 := bPr.later b7
        have t1 := bW16.cell 1 rfl
        have u1 := bP16.cell 1 rfl
        have ql := bW16.lt
        have ql2 := bP16.lt
        clear hKL2
        go_wp2_with fail
        generalize hS1 : World.alloc w16 _ = A16
        have bT : Blk A16 w16.heap.size [.bool tf, .int .i64 ts, .int .i64 tg, .slice pa' pl' pn'] 37 := by rw [← hS1]; exact Blk.new w16 _ _
        have hbA'' : Below w16.heap.size w16 A16 := by rw [← hS1]; exact bal w16 _
        clear hS1 t1 u1 ql ql2 hkle
        have b8 := below2 b7 hbA''
        have c16 : Below w15.heap.size w15 A16 := below2 (below2 hbA' hb16) hbA''
        have bS16 := bS.later (below2 hb16 hbA'')
        have b1516 := below2 hb15 c16
        have ha16 := hav.below (below2 (below2 hb13 hb14) b1516)
        have hb16' := hbv.below (below2 hb14 b1516)
        have hc16 := hcv.below b1516
        have y16 : IntsAt A16 _ _ := IntsIn.keeps (keeps_of_below b8) yr
        have bE16 := bEr.later b8
        have hbw16 := below2 hbwr b8
        have hAS := goodUp_sorted rows (2 ^ n)
        have HAS : Hid ((goodF ⟨n, rows, gain⟩).Pairwise (· < ·)) := hide hAS
        have HCS : Hid ((goodF ⟨n, kr, gain⟩).Pairwise (· < ·)) := hide (goodUp_sorted kr (2 ^ n))
        have HAT : Hid (∀ s ∈ goodF ⟨n, rows, gain⟩, s < 2 ^ n) := hide fun s hs => (mem_goodUp.1 hs).1
        have hAl : (goodF ⟨n, rows, gain⟩).length ≤ 2 ^ n := goodUp_le rows (2 ^ n)
        have hCl : (goodF ⟨n, kr, gain⟩).length ≤ 2 ^ n := goodUp_le kr (2 ^ n)
        have hp8 : 2 ^ n ≤ 2 ^ 8 := Nat.pow_le_pow_right (by omega) hn8
        have hAl2 : (goodF ⟨n, rows, gain⟩).length ≤ 256 := by omega
        have hCl2 : (goodF ⟨n, kr, gain⟩).length ≤ 256 := by omega
        clear hAS hAl hCl hp8 hav hbv hcv hav0 hbv0 hcv0 bP14 bQ12 bW13 bQ15 bW16 bP16 hrr hgr hMr bPr bQr
        generalize goodF ⟨n, rows, gain⟩ = AN at ha16 hb16' HAS HAT HSUB hAl2 ⊢
        generalize goodF ⟨n, kr, gain⟩ = CN at hc16 HCS HSUB hCl2 ⊢
        obtain ⟨a1', n1', e1', -, -, hac⟩ := id ha16
        cases e1'
        obtain ⟨a2', n2', e2', -, -, hbc⟩ := id hb16'
        cases e2'
        obtain ⟨a3', n3', e3', -, -, hcc⟩ := id hc16
        cases e3'
        have HAC := hide hac
        have HBC := hide hbc
        have HCC := hide hcc
        have HA16 := hide ha16
        clear hac hbc hcc ha16 hb16' hc16
        go_wp2_with fail
        go_loopw [29, 30, 31] (fun at_ wi i wr => ∃ (k wd : Nat), k ≤ AN.length ∧ i = .int .i64 k ∧ wi = .int .i64 wd ∧ at_ = .int .i64 ((AN.take k).filter (keptB ex)).length ∧ wd ≤ CN.length ∧ Hid (∀ m, k < AN.length → m < CN.length → CN.getD m 0 = AN.getD k 0 → wd ≤ m) ∧ Below A16.heap.size A16 wr) (fun _ _ i _ => AN.length - (intOf i).toNat)
        case atStart => exact ⟨0, 0, by omega, rfl, rfl, rfl, by omega, hide fun m _ _ _ => by omega, Below.refl _ _⟩
        case round =>
          obtain ⟨k, wd, hk, rfl, rfl, rfl, hwd, HWD, hbk⟩ := hrel
          obtain ⟨wk, rfl⟩ : ∃ W : World, W = wr := ⟨_, rfl⟩
          by_cases hlt : k < AN.length
          · obtain ⟨m, hm, hmx⟩ := place_of HSUB.out hlt
            have hwm : wd ≤ m := HWD.out m hlt hm hmx
            have hxT := HAT.out _ (getD_mem AN k (d := 0) hlt)
            obtain ⟨a', o', ea', hacell⟩ := HAC.out k (by simpa using hlt)
            cases ea'
            have hacell := keep hbk hacell
            rw [map_getD] at hacell
            have HNEXT : Hid (∀ m', k + 1 < AN.length → m' < CN.length → CN.getD m' 0 = AN.getD (k + 1) 0 → m ≤ m') := hide fun m' h1 h2 h3 => by
              have h4 := sorted_lt HAS.out (Nat.lt_succ_self k) h1
              rw [← hmx, ← h3] at h4
              exact Nat.le_of_lt (sorted_place HCS.out hm h4 h2)
            have HFY := hide (filter_at (f := keptB ex) hlt)
            have HFN := hide (filter_no (f := keptB ex) hlt)
            have hfl : ((AN.take k).filter (keptB ex)).length ≤ AN.length := by
              have h1 := List.length_filter_le (keptB ex) (AN.take k)
              have h2 : (AN.take k).length ≤ AN.length := by rw [List.length_take]; omega
              omega
            have HCLT : Hid (∀ j, j < m → CN.getD j 0 < AN.getD k 0) := hide fun j hj => by rw [← hmx]; exact sorted_lt HCS.out hj hm
            have HMX := hide hmx
            clear hmx
            generalize AN.getD k 0 = xx at hacell hxT HFY HFN HCLT HMX
            clear HWD
            go_wp2_with fail
            go_loopw [30] (fun wi wt => ∃ wd' : Nat, wd' ≤ m ∧ wi = .int .i64 wd' ∧ Below wk.heap.size wk wt) (fun wi _ => m - (intOf wi).toNat)
            case atStart => exact ⟨wd, hwm, rfl, Below.refl _ _⟩
            case round =>
              obtain ⟨wd', hwd', rfl, hbj⟩ := hrel
              obtain ⟨c', o'', ec', hccell⟩ := HCC.out wd' (by simp; omega)
              cases ec'
              have hccell := keep (below2 hbk hbj) hccell
              rw [map_getD] at hccell
              have g1 := bwc hccell
              have g2 := bwc (keep hbj hacell)
              have hwC : (wd' : Int) < (CN.length : Int) := by omega
              have hkA : (k : Int) < (AN.length : Int) := by omega
              by_cases hwl : wd' < m
              · have hxl : ((CN.getD wd' 0 : Nat) : Int) < (xx : Int) := by have := HCLT.out wd' hwl; omega
                generalize CN.getD wd' 0 = zz at g1 hxl hccell
                go_wp2_with fail
                refine wp_region_bw (by kernel_rfl) (by kernel_rfl) ?_
                repeat (go_big_quiet_step (fail))
                refine wpQuiet_nil ?_
                rintro _ ⟨i, rfl⟩
                go_wp2_with fail
                go_roundw
                case rel => exact ⟨wd' + 1, by omega, by go_num, bwb i hbj hbj.size⟩
                case measure => simp [intOf]; omega
              · obtain rfl : wd' = m := by omega
                rw [HMX.out] at g1
                have hxl : ¬ ((xx : Int) < (xx : Int)) := by omega
                go_wp2_with fail
                refine wp_region_bw (by kernel_rfl) (by kernel_rfl) ?_
                repeat (go_big_quiet_step (fail))
                refine wpQuiet_nil ?_
                rintro _ ⟨i, rfl⟩
                clear g1 g2 hxl
                have hbj2 := bwb i hbj hbj.size
                have hck2 := keep i.h hccell
                rw [HMX.out] at hck2
                have hak2 := keep hbj2 hacell
                generalize i.W = W30 at hbj2 hck2 hak2 ⊢
                have g1 := bwc hck2
                have g2 := bwc hak2
                have hxx : ((xx : Int) != (xx : Int)) = false := by simp
                go_wp2_with fail
                refine wp_region_bw (by kernel_rfl) (by kernel_rfl) ?_
                repeat (go_big_quiet_step (fail))
                refine wpQuiet_nil ?_
                rintro _ ⟨i', rfl⟩
                clear g1 g2 hxx
                have hbj3 := bwb i' hbj2 hbj2.size
                have hak3 := keep i'.h hak2
                generalize i'.W = W31 at hbj3 hak3 ⊢
                have bE31 := bE16.later (below2 hbk hbj3)
                have y31 : IntsAt W31 _ _ := IntsIn.keeps (keeps_of_below (below2 hbk hbj3)) y16
                have g1 := bwc hak3
                have r0 := bwc (bE31.cell 0 rfl)
                have r1 := bwc (bE31.cell 1 rfl)
                have r2 := bwc (bE31.cell 2 rfl)
                have r3 := bwc (bE31.cell 3 rfl)
                have r4 := bwc (bE31.cell 4 rfl)
                have r5 := bwc (bE31.cell 5 rfl)
                have HSF : Hid (sumF ex xx = chosenF ex.coef xx) := hide (sumF_in (by omega) HEX.out hxT)
                have HKB : Hid (keptB ex xx = decide (chosenF ex.coef xx ≤ ex.most)) := hide rfl
                have HSUM := hide (fun (i : Bw W31.heap.size W31) => sum_any ex (.slice ea ex.coef.length ec) xx i.W (IntsIn.keeps (keeps_of_below i.h) y31))
                rw [HSF.out] at HSUM
                generalize chosenF ex.coef xx = sx at HSUM HKB
                by_cases hs : sx ≤ ex.most
                · have hKY : Hid (keptB ex xx = true) := hide (by rw [HKB.out]; exact decide_eq_true hs)
                  obtain ⟨f1, f2, f3⟩ := HFY.out hKY.out
                  have HF3 := hide f3
                  obtain ⟨b', o3, eb, hbcell⟩ := HBC.out _ (by simpa using f1)
                  cases eb
                  rw [map_getD, f2] at hbcell
                  have hbcell := keep (below2 hbk hbj3) hbcell
                  have hF1 : (((AN.take k).filter (keptB ex)).length : Int) < ((AN.filter (keptB ex)).length : Int) := by omega
                  generalize ((AN.take k).filter (keptB ex)).length = at0 at hbcell hF1 HF3 f1 hfl ⊢
                  clear f2 f3
                  go_wp2_with fail
                  refine wp_region_bw (by kernel_rfl) (by kernel_rfl) ?_
                  repeat (go_big_quiet_step ((go_at_call 28; exact quiet (HSUM.out _))))
                  refine wpQuiet_nil ?_
                  rintro _ ⟨i'', rfl⟩
                  clear g1 r0 r1 r2 r3 r4 r5
                  have hbj4 := bwb i'' hbj3 hbj3.size
                  have hak4 := keep i''.h hak3
                  have hbc4 := keep i''.h hbcell
                  generalize i''.W = W32 at hbj4 hak4 hbc4 ⊢
                  have g1 := bwc hak4
                  have g2 := bwc hbc4
                  have hxx : ((xx : Int) != (xx : Int)) = false := by simp
                  go_wp2_with fail
                  refine wp_region_bw (by kernel_rfl) (by kernel_rfl) ?_
                  repeat (go_big_quiet_step (fail))
                  refine wpQuiet_nil ?_
                  rintro _ ⟨i3, rfl⟩
                  have hbj5 := bwb i3 hbj4 hbj4.size
                  go_wp2_with fail
                  go_roundw
                  case rel => exact ⟨k + 1, _, by omega, by go_num, rfl, by rw [HF3.out]; go_num, by omega, HNEXT, hbk.trans (hbj5.mono hbk.size)⟩
                  case measure => simp [intOf]; omega
                · have hKN : Hid (keptB ex xx = false) := hide (by rw [HKB.out]; exact decide_eq_false hs)
                  have HF3 := hide (HFN.out hKN.out)
                  have hs' : ex.most < sx := by omega
                  go_wp2_with fail
                  refine wp_region_bw (by kernel_rfl) (by kernel_rfl) ?_
                  repeat (go_big_quiet_step ((go_at_call 28; exact quiet (HSUM.out _))))
                  refine wpQuiet_nil ?_
                  rintro _ ⟨i'', rfl⟩
                  have hbj4 := bwb i'' hbj3 hbj3.size
                  go_wp2_with fail
                  go_roundw
                  case rel => exact ⟨k + 1, _, by omega, by go_num, rfl, by rw [HF3.out], by omega, HNEXT, hbk.trans (hbj4.mono hbk.size)⟩
                  case measure => simp [intOf]; omega
          · obtain rfl : k = AN.length := by omega
            rw [List.take_of_length_le (Nat.le_refl _)]
            have bSk := bS16.later hbk
            have bTk := bT.later hbk
            have s0 := bSk.cell 0 rfl
            have s2 := bSk.cell 2 rfl
            have t0 := bTk.cell 0 rfl
            have t2 := bTk.cell 2 rfl
            have hee : (((AN.filter (keptB ex)).length : Int) == ((AN.filter (keptB ex)).length : Int)) = true := by simp
            cases tf
            · go_wp2_with fail
              go_ret
              exact ⟨rfl, below2 hbw16 hbk⟩
            · obtain ⟨h1, h2⟩ : sf = true ∧ tg ≤ sg := HMO.out rfl
              subst h1
              go_wp2_with fail
              go_ret
              exact ⟨rfl, below2 hbw16 hbk⟩
end Go.Proofs.Ytcaklldmcbpbfaa
