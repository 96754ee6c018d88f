/- The walk of ProgramAdds. Conditions: how the arguments lie in memory; that integers are of 64 bits. -/
import Derived.Test.YtcaklldmcbpbfaaLwB
import Derived.Test.YtcaklldmcbpbfaaPmodI
import Derived.Test.YtcaklldmcbpbfaaAppI
import Derived.Test.YtcaklldmcbpbfaaRegZ
import Derived.Test.YtcaklldmcbpbfaaLwAdds2
import Derived.Deep.RegionLawGrows
import Derived.Deep.RegionHeld3
import Derived.Deep.DeepCutAuto
namespace Go.Proofs.Ytcaklldmcbpbfaa
open Go.RowKit

theorem le50 {M : Nat} (h : M ≤ 50) : (0 : Int) ≤ M ∧ (M : Int) ≤ 50 := by omega
set_option linter.unusedSimpArgs false in
set_option maxRecDepth 100000 in
set_option maxHeartbeats 4000000 in
theorem adds_any (v : Int) (x : List Tri) (xv : Value) (g : List Int) (wh tm : List Int) (w : World) (hv : i64B v) (hx : TrisIn w.cell? xv x) (hx64 : ∀ t ∈ x, tri64 t) (hg : g.length = 8) (hg64 : ∀ y ∈ g, i64B y) (hwh : wh.length = 2) (hwh64 : ∀ y ∈ wh, i64B y) (htm : tm.length = 2) (htm64 : ∀ y ∈ tm, i64B y) :
    Calls Try.prog 9 #[.int .i64 v, xv, .agg (g.map (Value.int .i64)).toArray, .agg (wh.map (Value.int .i64)).toArray, .agg (tm.map (Value.int .i64)).toArray] w (Ret (.bool true) w) := by
  obtain ⟨w0', w1', rfl⟩ : ∃ a b, wh = [a, b] := by
    match wh, hwh with
    | [a, b], _ => exact ⟨_, _, rfl⟩
  obtain ⟨t0', t1', rfl⟩ : ∃ a b, tm = [a, b] := by
    match tm, htm with
    | [a, b], _ => exact ⟨_, _, rfl⟩
  have hw0 : i64B w0' := hwh64 _ (by simp)
  have hw1 : i64B w1' := hwh64 _ (by simp)
  have ht0 : i64B t0' := htm64 _ (by simp)
  have ht1 : i64B t1' := htm64 _ (by simp)
  clear hwh hwh64 htm htm64
  obtain ⟨g0, g1, g2, g3, g4, g5, g6, g7, rfl⟩ : ∃ g0 g1 g2 g3 g4 g5 g6 g7, g = [g0, g1, g2, g3, g4, g5, g6, g7] := by
    match g, hg with
    | [a, b, c, d, e, f, g, h], _ => exact ⟨_, _, _, _, _, _, _, _, rfl⟩
  obtain ⟨xa, xn, rfl, hx1, hx2, -⟩ := id hx
  have HM := hide (fun W (h : Below w.heap.size w W) => made_any v x (.slice xa x.length xn) [g0, g1, g2, g3, g4, g5, g6, g7] W hv (TrisIn.keeps (keeps_of_below h) hx) hx64 hg hg64)
  clear hx hx64 hg hg64
  go_enter Try.func9, Try.ntmps9
  go_wp2_with fail
  generalize hA0 : World.alloc w _ = A0
  have bG0 : Blk A0 w.heap.size ([g0, g1, g2, g3, g4, g5, g6, g7].map (Value.int .i64)) 23 := by rw [← hA0]; exact Blk.new w _ _
  have hA1 : Below w.heap.size w A0 := by rw [← hA0]; exact bal w _
  have hz0 : A0.heap.size = w.heap.size + 1 := by rw [← hA0]; simp
  generalize hB0 : World.alloc A0 _ = A1
  have bH0 : Blk A1 (w.heap.size + 1) ([w0', w1'].map (Value.int .i64)) 64 := by rw [← hB0, ← hz0]; exact Blk.new A0 _ _
  have hB1 : Below A0.heap.size A0 A1 := by rw [← hB0]; exact bal A0 _
  have hz1 : A1.heap.size = w.heap.size + 1 + 1 := by rw [← hB0, ← hz0]; simp
  generalize hW0 : World.alloc A1 _ = W0
  have hb00 : Below A1.heap.size A1 W0 := by rw [← hW0]; exact bal A1 _
  have bT0 : Blk W0 (w.heap.size + 1 + 1) ([t0', t1'].map (Value.int .i64)) 64 := by rw [← hW0, ← hz1]; exact Blk.new A1 _ _
  have hb0 : Below w.heap.size w W0 := below2 hA1 (below2 hB1 hb00)
  have bG := bG0.later (below2 hB1 hb00)
  have bH := bH0.later hb00
  clear hA0 hB0 hW0 hA1 bG0 hz0 hz1 hb00 bH0 hB1
  refine (sane_any _).mono ?_
  rintro e w1 ⟨rfl, hb1⟩
  have bG1 := bG.later hb1
  have c0 := bG1.cell 0 rfl
  have c1 := bG1.cell 1 rfl
  have c2 := bG1.cell 2 rfl
  have c3 := bG1.cell 3 rfl
  have c4 := bG1.cell 4 rfl
  have c5 := bG1.cell 5 rfl
  have c6 := bG1.cell 6 rfl
  have c7 := bG1.cell 7 rfl
  go_wp2_with fail
  refine (HM.out _ (below2 hb0 hb1)).mono ?_
  rintro e w2 ⟨pv, rfl, hpv, hb2⟩
  clear c0 c1 c2 c3 c4 c5 c6 c7 HM bG1 bG
  obtain ⟨n, rows, gain, hmf, hn8, hr8, hV⟩ := made_form v x [g0, g1, g2, g3, g4, g5, g6, g7]
  have HSM : Hid (∀ r ∈ rows, smallR r) := hide (by
    have h := made_small v x [g0, g1, g2, g3, g4, g5, g6, g7]
    rw [hmf] at h; exact h)
  have HNV : Hid (n = mvars v) := hide (by
    have h := congrArg ProgD.vars hmf
    have h : (mvars v : Int) = (n : Int) := h
    omega)
  rw [hmf] at hpv
  clear hmf
  obtain ⟨rv, gv, rfl, hr, hgn⟩ := hpv
  have hr2 : RowsAt w2 rv rows := hr.keeps (keeps_frm _ _)
  have hg2 : IntsAt w2 gv gain := hgn.keeps (keeps_frm _ _)
  obtain ⟨ra, rc, rfl, -, hrm, -⟩ := id hr2
  obtain ⟨ga, gc, rfl, -, hgm, -⟩ := id hg2
  have hbw2 := below2 (below2 hb0 hb1) hb2
  clear hr hgn hb0
  have bH2 := bH.later (below2 hb1 hb2)
  have bT2 := bT0.later (below2 hb1 hb2)
  by_cases h0 : rows.length = 0
  · have e0 : ((rows.length : Int) == 0) = true := by simp [h0]
    have H0 := hide h0
    clear h0
    go_wp2_with fail
    go_ret
    exact ⟨rfl, below2 hbw2 (bal w2 _)⟩
  · have e0 : ((rows.length : Int) == 0) = false := by simpa using h0
    have h00 : 0 < rows.length := by omega
    clear h0
    go_wp2_with fail
    generalize hW3 : World.alloc w2 _ = W3
    have bP : Blk W3 w2.heap.size [.int .i64 n, .slice ra rows.length rc, .slice ga gain.length gc] 29 := by rw [← hW3]; exact Blk.new w2 _ _
    have hb3 : Below w2.heap.size w2 W3 := by rw [← hW3]; exact bal w2 _
    have hr3 := hr2.below hb3
    have hg3 := hg2.below hb3
    have hbw3 := below2 hbw2 hb3
    have p0 := bP.cell 0 rfl
    have p1 := bP.cell 1 rfl
    have p2 := bP.cell 2 rfl
    clear hW3 hr2 hg2 hbw2
    have bP3 := bP
    have bH3 := bH2.later hb3
    have bT3 := bT2.later hb3
    have HV := hide hV
    have HRT : Hid (∀ r ∈ rows, rightB r n = true ∧ smallR r) := hide fun r hr => ⟨valid_right hV hr, HSM.out r hr⟩
    clear hV e0 p0 p1 p2 bP bH2 bT2 bH bT0
    have hN1 : ((rows.length : Nat) : Int) ≤ 9223372036854775807 := by omega
    obtain ⟨A, hA, hAl⟩ : ∃ A : Nat, pickF w0' (rows.length : Int) = A ∧ A < rows.length := ⟨(pickF w0' (rows.length : Int)).toNat, by have := pickF_nonneg w0' (n := (rows.length : Int)) (by omega); omega, by have := pickF_lt w0' (n := (rows.length : Int)) (by omega); omega⟩
    obtain ⟨a', n', e', -, -, hrc⟩ := id hr3
    cases e'
    obtain ⟨bAx, oAx, cv, he, hck⟩ := hrc A hAl
    subst he
    obtain ⟨y0, y1, y2, y3, y4, y5, y6⟩ := hck
    obtain ⟨caA, ccA, rfl, -, -, -⟩ := id y6
    have HRA := hide (HRT.out _ (getD_mem rows A (d := row0) hAl))
    clear hrc
    generalize rows.getD A row0 = rA at y0 y1 y2 y3 y4 y5 y6 HRA
    have p1 := bP3.cell 1 rfl
    have z0 := bH3.cell 0 rfl
    have HS : Hid (∀ W, Below W3.heap.size W3 W → W.cell? ⟨w2.heap.size, 1, none⟩ = some (.slice (some ⟨bAx, oAx, none⟩) rows.length rc) ∧ W.cell? ⟨w.heap.size + 1, 0, none⟩ = some (.int .i64 w0') ∧ W.cell? ⟨bAx, oAx + A * 6, none⟩ = some (.int .i64 rA.kind) ∧ W.cell? ⟨bAx, oAx + A * 6 + 1, none⟩ = some (.int .i64 rA.a) ∧ W.cell? ⟨bAx, oAx + A * 6 + 2, none⟩ = some (.int .i64 rA.b) ∧ W.cell? ⟨bAx, oAx + A * 6 + 3, none⟩ = some (.int .i64 rA.at_) ∧ W.cell? ⟨bAx, oAx + A * 6 + 4, none⟩ = some (.slice caA rA.coef.length ccA) ∧ W.cell? ⟨bAx, oAx + A * 6 + 5, none⟩ = some (.int .i64 rA.most)) :=
      hide fun W h => ⟨keep h p1, keep h z0, keep h y0, keep h y1, keep h y2, keep h y3, keep h y4, keep h y5⟩
    have HNEW := hide (Blk.new W3 (rowCells rA (.slice caA rA.coef.length ccA)) 26)
    clear p1 z0 y0 y1 y2 y3 y4 y5
    go_cut [13] (fun s wx => s = .pointer (some ⟨W3.heap.size, 0, none⟩) ∧ Blk wx W3.heap.size (rowCells rA (.slice caA rA.coef.length ccA)) 26 ∧ Below W3.heap.size W3 wx)
    case first =>
      go_region_held3 (fun W => W.cell? ⟨w2.heap.size, 1, none⟩ = some (.slice (some ⟨bAx, oAx, none⟩) rows.length rc) ∧ W.cell? ⟨w.heap.size + 1, 0, none⟩ = some (.int .i64 w0') ∧ W.cell? ⟨bAx, oAx + A * 6, none⟩ = some (.int .i64 rA.kind) ∧ W.cell? ⟨bAx, oAx + A * 6 + 1, none⟩ = some (.int .i64 rA.a) ∧ W.cell? ⟨bAx, oAx + A * 6 + 2, none⟩ = some (.int .i64 rA.b) ∧ W.cell? ⟨bAx, oAx + A * 6 + 3, none⟩ = some (.int .i64 rA.at_) ∧ W.cell? ⟨bAx, oAx + A * 6 + 4, none⟩ = some (.slice caA rA.coef.length ccA) ∧ W.cell? ⟨bAx, oAx + A * 6 + 5, none⟩ = some (.int .i64 rA.most))
        (first | exact HS.out _ (Below.refl _ _).drew | exact HS.out _ (bal W3 _) | exact HS.out _ (below2 (bal W3 _) (Below.refl _ _).drew) | go_keep)
        (first | (go_at_call 12; refine (pickl_any _ _ _ hw0.1 hw0.2 (by omega) hN1).mono ?_; rintro e w5 ⟨rfl, rfl⟩))
      all_goals (
        go_wp2_with fail
        go_meet
        exact ⟨rfl, HNEW.out.later (Below.refl _ _).drew, below2 (bal W3 _) (Below.refl _ _).drew⟩)
    case rest =>
      obtain ⟨rfl, bA, hbA⟩ := hcut
      obtain ⟨W4, rfl⟩ : ∃ W : World, W = wc := ⟨_, rfl⟩
      have yA : IntsAt W4 _ _ := IntsIn.keeps (keeps_of_below hbA) y6
      have bP4 := bP3.later hbA
      have bH4 := bH3.later hbA
      have bT4 := bT3.later hbA
      have hr4 := hr3.below hbA
      have hg4 := hg3.below hbA
      have hbw4 := below2 hbw3 hbA
      have hlA := bA.lt
      clear y6 HS HNEW bP3 bH3 bT3 hr3 hg3 hbw3
      go_wp2_with fail
      have hN1 : ((rows.length : Nat) : Int) ≤ 9223372036854775807 := by omega
      obtain ⟨B, hB, hBl⟩ : ∃ A : Nat, pickF w1' (rows.length : Int) = A ∧ A < rows.length := ⟨(pickF w1' (rows.length : Int)).toNat, by have := pickF_nonneg w1' (n := (rows.length : Int)) (by omega); omega, by have := pickF_lt w1' (n := (rows.length : Int)) (by omega); omega⟩
      obtain ⟨a', n', e', -, -, hrc⟩ := id hr4
      cases e'
      obtain ⟨bBx, oBx, cv, he, hck⟩ := hrc B hBl
      (simp at he; obtain ⟨h1', h2'⟩ := he; subst h1'; subst h2')
      obtain ⟨y0, y1, y2, y3, y4, y5, y6⟩ := hck
      obtain ⟨caB, ccB, rfl, -, -, -⟩ := id y6
      have HRB := hide (HRT.out _ (getD_mem rows B (d := row0) hBl))
      clear hrc
      generalize rows.getD B row0 = rB at y0 y1 y2 y3 y4 y5 y6 HRB
      have p1 := bP4.cell 1 rfl
      have z0 := bH4.cell 1 rfl
      have HS : Hid (∀ W, Below W4.heap.size W4 W → W.cell? ⟨w2.heap.size, 1, none⟩ = some (.slice (some ⟨bAx, oAx, none⟩) rows.length rc) ∧ W.cell? ⟨w.heap.size + 1, 1, none⟩ = some (.int .i64 w1') ∧ W.cell? ⟨bAx, oAx + B * 6, none⟩ = some (.int .i64 rB.kind) ∧ W.cell? ⟨bAx, oAx + B * 6 + 1, none⟩ = some (.int .i64 rB.a) ∧ W.cell? ⟨bAx, oAx + B * 6 + 2, none⟩ = some (.int .i64 rB.b) ∧ W.cell? ⟨bAx, oAx + B * 6 + 3, none⟩ = some (.int .i64 rB.at_) ∧ W.cell? ⟨bAx, oAx + B * 6 + 4, none⟩ = some (.slice caB rB.coef.length ccB) ∧ W.cell? ⟨bAx, oAx + B * 6 + 5, none⟩ = some (.int .i64 rB.most)) :=
        hide fun W h => ⟨keep h p1, keep h z0, keep h y0, keep h y1, keep h y2, keep h y3, keep h y4, keep h y5⟩
      have HNEW := hide (Blk.new W4 (rowCells rB (.slice caB rB.coef.length ccB)) 26)
      clear p1 z0 y0 y1 y2 y3 y4 y5
      go_cut [14] (fun s wx => s = .pointer (some ⟨W4.heap.size, 0, none⟩) ∧ Blk wx W4.heap.size (rowCells rB (.slice caB rB.coef.length ccB)) 26 ∧ Below W4.heap.size W4 wx)
      case first =>
        go_region_held3 (fun W => W.cell? ⟨w2.heap.size, 1, none⟩ = some (.slice (some ⟨bAx, oAx, none⟩) rows.length rc) ∧ W.cell? ⟨w.heap.size + 1, 1, none⟩ = some (.int .i64 w1') ∧ W.cell? ⟨bAx, oAx + B * 6, none⟩ = some (.int .i64 rB.kind) ∧ W.cell? ⟨bAx, oAx + B * 6 + 1, none⟩ = some (.int .i64 rB.a) ∧ W.cell? ⟨bAx, oAx + B * 6 + 2, none⟩ = some (.int .i64 rB.b) ∧ W.cell? ⟨bAx, oAx + B * 6 + 3, none⟩ = some (.int .i64 rB.at_) ∧ W.cell? ⟨bAx, oAx + B * 6 + 4, none⟩ = some (.slice caB rB.coef.length ccB) ∧ W.cell? ⟨bAx, oAx + B * 6 + 5, none⟩ = some (.int .i64 rB.most))
          (first | exact HS.out _ (Below.refl _ _).drew | exact HS.out _ (bal W4 _) | exact HS.out _ (below2 (bal W4 _) (Below.refl _ _).drew) | go_keep)
          (first | (go_at_call 12; refine (pickl_any _ _ _ hw1.1 hw1.2 (by omega) hN1).mono ?_; rintro e w5 ⟨rfl, rfl⟩))
        all_goals (
          go_wp2_with fail
          go_meet
          exact ⟨rfl, HNEW.out.later (Below.refl _ _).drew, below2 (bal W4 _) (Below.refl _ _).drew⟩)
      case rest =>
        obtain ⟨rfl, bB, hbB⟩ := hcut
        obtain ⟨W5, rfl⟩ : ∃ W : World, W = wc := ⟨_, rfl⟩
        have yB : IntsAt W5 _ _ := IntsIn.keeps (keeps_of_below hbB) y6
        have yA5 : IntsAt W5 _ _ := IntsIn.keeps (keeps_of_below hbB) yA
        have bA5 := bA.later hbB
        have bP5 := bP4.later hbB
        have bT5 := bT4.later hbB
        have hg5 := hg4.below hbB
        have hbw5 := below2 hbw4 hbB
        clear y6 HS HNEW bP4 bH4 bT4 hr4 hg4 hbw4 yA bA hA hB
        obtain ⟨M, hM, hM2⟩ : ∃ A : Nat, pickF t0' 51 = A ∧ A ≤ 50 := ⟨(pickF t0' 51).toNat, by have := pickF_nonneg t0' (n := 51) (by decide); omega, by have := pickF_lt t0' (n := 51) (by decide); omega⟩
        obtain ⟨N, hN, hN2⟩ : ∃ A : Nat, pickF t1' 51 = A ∧ A ≤ 50 := ⟨(pickF t1' 51).toNat, by have := pickF_nonneg t1' (n := 51) (by decide); omega, by have := pickF_lt t1' (n := 51) (by decide); omega⟩
        have z0 := bT5.cell 0 rfl
        have z1 := bT5.cell 1 rfl
        have a5 := bA5.cell 5 rfl
        have b5 := bB.cell 5 rfl
        have lA := bA5.lt
        have lB := bB.lt
        have hsA := HRA.out.2
        have hsB := HRB.out.2
        have u1 := mul_small (m := M) (c := rA.most) (by omega) (by omega) hsA.1 hsA.2.1
        have u2 := mul_small (m := N) (c := rB.most) (by omega) (by omega) hsB.1 hsB.2.1
        have u3 := mul_small (m := (M : Int) + 1) (c := rA.most) (by omega) (by omega) hsA.1 hsA.2.1
        have e1 : wrap64 ((M : Int) * rA.most) = M * rA.most := wrap_id (by omega) (by omega)
        have e2 : wrap64 ((N : Int) * rB.most) = N * rB.most := wrap_id (by omega) (by omega)
        have e3 : wrap64 ((M : Int) * rA.most + N * rB.most) = M * rA.most + N * rB.most := wrap_id (by omega) (by omega)
        have e4 : wrap64 (((M : Int) + 1) * rA.most) = (M + 1) * rA.most := wrap_id (by omega) (by omega)
        clear hsA hsB u1 u2 u3
        go_wp2_with fail
        refine (pickl_any t0' 51 _ ht0.1 ht0.2 (by decide) (by decide)).mono ?_
        rintro e w10 ⟨rfl, hw10⟩
        obtain rfl := hw10.symm
        rw [hM]
        go_wp2_with fail
        refine (pickl_any t1' 51 _ ht1.1 ht1.2 (by decide) (by decide)).mono ?_
        rintro e w10 ⟨rfl, hw10⟩
        obtain rfl := hw10.symm
        rw [hN]
        clear hM hN
        go_wp2_with fail
        generalize hW6 : World.alloc W5 _ = W6
        have hz6 : W6.heap.size = W5.heap.size + 1 := by rw [← hW6]; simp
        have hb56 : Below W5.heap.size W5 W6 := by rw [← hW6]; exact bal W5 _
        have bS6 : Blk W6 W5.heap.size [.int .i64 0, .int .i64 0, .int .i64 0, .int .i64 0, .slice none 0 0, .int .i64 (M * rA.most + N * rB.most)] 26 := by rw [← hW6]; exact Blk.new W5 _ _
        generalize hW7 : World.alloc W6 _ = W7
        have hb67 : Below W6.heap.size W6 W7 := by rw [← hW7]; exact bal W6 _
        have hz7 : W7.heap.size = W5.heap.size + 1 + 1 := by rw [← hW7, ← hz6]; simp
        have bS7 := bS6.later hb67
        have bG7 : Blk W7 (W5.heap.size + 1) [.int .i64 0, .int .i64 0, .int .i64 0, .int .i64 0, .slice none 0 0, .int .i64 ((M + 1) * rA.most)] 26 := by rw [← hW7, ← hz6]; exact Blk.new W6 _ _
        have hb57 := below2 hb56 hb67
        have HZ7 := hide hz7
        clear hW6 hW7 hz6 hz7 hb56 hb67 bS6 z0 z1 a5 b5 e1 e2 e3 e4 lA lB
        refine adds_loop1 W5 W3 W4 w2 W7 n rows gain rA rB M N hM2 hN2 hn8 _ _ _ _ _ _ _ _ HRA HRB bA5 bB bP5 yA5 yB bS7 bG7 hb57 HZ7 _ _ _ _ _ _ _ _ _ _ _ _ _ _ _ _ _ _ _ _ _ _ _ _ _ _ _ _ _ _ _ _ _ _ _ _ _ _ _ _ _ _ _ _ _ _ _ _ _ _ _ _ _ _ _ _ _ _ _ _ _ _ _ _ _ _ _ _ _ _ _ _ _ _ _ _ _ _ _ _ _ _ _ _ _ _ _ _ _ _ _ _ _ _ _ _ _ _ _ _ _ _ _ _ _ _ _ _ _ _ _ _ _ _ _ _ _ _ _ _ _ _ _ _ _ _ _ _ _ _ _ _ _ _ _ _ _ _ _ _ _ _ _ _ _ _ _ _ _ _ _ _ _ _ _ _ _ _ _ _ _ _ _ _ _ _ _ _ _ _ _ ?_
        intro t79 t80 t81 t82 t83 t84 t85 t86 t87 t88 t89 t90 t91 t92 t93 t94 t95 t96 t97 t98 t99 t100 t101 t102 t103 t104 t105 t106 t107 t108 t109 t110 t111 t112 t113 t114 t115 t116 t117 wr cs cg hcs hcg bS bG hbr
        have bPr := bP5.later hbr
        clear bS7 bG7 hb57 HZ7
        obtain ⟨sa, sc, rfl⟩ := hcs.form
        obtain ⟨ga', gc', rfl⟩ := hcg.form
        have bAr := bA5.later hbr
        have bBr := bB.later hbr
        have bSc := bS
        have bGc := bG
        rw [addUp_len] at bSc
        rw [greatUp_len] at bGc
        have s0 := bSc.cell 0 rfl
        have s1 := bSc.cell 1 rfl
        have s2 := bSc.cell 2 rfl
        have s3 := bSc.cell 3 rfl
        have s4 := bSc.cell 4 rfl
        have s5 := bSc.cell 5 rfl
        have t0 := bGc.cell 0 rfl
        have t1 := bGc.cell 1 rfl
        have t2 := bGc.cell 2 rfl
        have t3 := bGc.cell 3 rfl
        have t4 := bGc.cell 4 rfl
        have t5 := bGc.cell 5 rfl
        have a0 := bAr.cell 0 rfl
        have a1 := bAr.cell 1 rfl
        have a2 := bAr.cell 2 rfl
        have a3 := bAr.cell 3 rfl
        have a4 := bAr.cell 4 rfl
        have a5 := bAr.cell 5 rfl
        have b0 := bBr.cell 0 rfl
        have b1 := bBr.cell 1 rfl
        have b2 := bBr.cell 2 rfl
        have b3 := bBr.cell 3 rfl
        have b4 := bBr.cell 4 rfl
        have b5 := bBr.cell 5 rfl
        have p0 := bPr.cell 0 rfl
        have p1 := bPr.cell 1 rfl
        have p2 := bPr.cell 2 rfl
        have lS := bSc.lt
        have lG := bGc.lt
        have lA := bAr.lt
        have lB := bBr.lt
        have lP := bPr.lt
        go_wp2_with fail
        clear s0 s1 s2 s3 s4 s5 t0 t1 t2 t3 t4 t5 a0 a1 a2 a3 a4 a5 b0 b1 b2 b3 b4 b5 p0 p1 p2 lS lG lA lB lP bSc bGc
        have hic := hcs.ints
        have hig := hcg.ints
        rw [addUp_len] at hic
        rw [greatUp_len] at hig
        have hgr := hg5.below hbr
        have yAr : IntsAt wr _ _ := IntsIn.keeps (keeps_of_below hbr) yA5
        have yBr : IntsAt wr _ _ := IntsIn.keeps (keeps_of_below hbr) yB
        have hbwr := below2 hbw5 hbr
        generalize hW8 : World.alloc wr _ = W8
        have hb8 : Below wr.heap.size wr W8 := by rw [← hW8]; exact bal wr _
        have hz8 : W8.heap.size = wr.heap.size + 1 := by rw [← hW8]; simp
        have bQ8 : Blk W8 wr.heap.size [.int .i64 n, .slice (some ⟨wr.heap.size + 1, 0, none⟩) 4 4, .slice ga gain.length gc] 29 := by rw [← hW8]; exact Blk.new wr _ _
        generalize hW9 : World.alloc W8 _ = W9
        have hb9 : Below W8.heap.size W8 W9 := by rw [← hW9]; exact bal W8 _
        have bR9 : Blk W9 (wr.heap.size + 1) (List.flatten [rowCells rA (.slice caA rA.coef.length ccA), rowCells rB (.slice caB rB.coef.length ccB), rowCells (addR M N rA rB n) (.slice sa n sc), rowCells (greatR M rA n) (.slice ga' n gc')]) 26 := by rw [← hW9, ← hz8]; exact Blk.new W8 _ _
        have hb89 := below2 hb8 hb9
        have bQ9 := bQ8.later hb9
        have bP9 := bPr.later hb89
        have hg9 := hgr.below hb89
        have hbw9 := below2 hbwr hb89
        have kp := keeps_of_below hb89
        have h4 : RowsAt W9 (.slice (some ⟨wr.heap.size + 1, 0, none⟩) 4 4) [rA, rB, addR M N rA rB n, greatR M rA n] := by
          have key : ∀ {cv : Value} {l : List Int}, IntsAt wr cv l → IntsIn (frm 0 W9) cv l := fun h => by
            obtain ⟨a, n, e1, e2, e3, e4⟩ := IntsIn.keeps kp h
            exact ⟨a, n, e1, e2, e3, fun q hq => let ⟨b, o, e, hc⟩ := e4 q hq; ⟨b, o, e, frm_pos (Nat.zero_le _) hc⟩⟩
          have h0 := bR9.rows (B := 0) (l := [rA, rB, addR M N rA rB n, greatR M rA n]) (Nat.zero_le _) (by simp) (by intro r hr; simp at hr; rcases hr with rfl | rfl | rfl | rfl <;> rfl) rfl (fun i hi => by
            match i, hi with
            | 0, _ => exact ⟨_, rfl, key yAr⟩
            | 1, _ => exact ⟨_, rfl, key yBr⟩
            | 2, _ => exact ⟨_, rfl, key hic⟩
            | 3, _ => exact ⟨_, rfl, key hig⟩)
          exact h0.keeps (keeps_frm _ _)
        have hM50 := le50 hM2
        have hN50 := le50 hN2
        have hVQ : validB ⟨n, [rA, rB, addR M N rA rB n, greatR M rA n], gain⟩ = true := four_valid HV.out HRA.out.1 HRB.out.1 (addR_right hM50 hN50 HRA.out.2 HRB.out.2 n) (greatR_right hM50 HRA.out.2 n)
        have hlenA : rA.coef.length = n := by have := HRA.out.1; simp only [rightB, Bool.and_eq_true, lenB, decide_eq_true_eq] at this; exact Int.ofNat.inj this.1.1
        have hlenB : rB.coef.length = n := by have := HRB.out.1; simp only [rightB, Bool.and_eq_true, lenB, decide_eq_true_eq] at this; exact Int.ofNat.inj this.1.1
        have HK2 : Hid (∀ s, keptB rA s = true → keptB rB s = true → keptB (addR M N rA rB n) s = true) := hide fun s h1 h2 => kept_add hM50.1 hN50.1 hlenA hlenB h1 h2
        have HK3 : Hid (∀ s, keptB (greatR M rA n) s = keptB rA s) := hide fun s => kept_great hM50.1 hlenA s
        have HVQ' := hide hVQ
        obtain ⟨RB, hRB⟩ : ∃ RB, RB = wr.heap.size + 1 := ⟨_, rfl⟩
        rw [← hRB] at h4 bQ8 bQ9
        have HRB0 := hide hRB
        clear hRB
        clear hW8 hW9 hz8 hb8 bQ8 hb9 bR9 hb89 bPr hgr hbwr kp yAr yBr hic hig hcs hcg bS bG hVQ hlenA hlenB hM50 hN50
        obtain ⟨T, hT, hT1, hT2, hTc, hTi⟩ := pow_T hn8
        have HT := hide hT
        clear hT hTi
        refine adds_loop2 W9 w2.heap.size wr.heap.size RB n T rows gain rA rB _ _ _ _ _ _ bP9 bQ9 h4 hg9 HVQ' HK2 HK3 hn8 HT hT1 hT2 hTc _ _ _ _ _ _ _ _ _ _ _ _ _ _ _ _ _ _ _ _ _ _ _ _ _ _ _ _ _ _ _ _ _ _ _ _ _ _ _ _ _ _ _ _ _ _ _ _ _ _ _ _ _ _ _ _ _ _ _ _ _ _ _ _ _ _ _ _ _ _ _ _ _ _ _ _ _ _ _ _ _ _ _ _ _ _ _ _ _ _ _ _ _ _ _ _ _ _ _ _ _ _ _ _ _ _ _ _ _ _ _ _ _ _ _ _ _ _ _ _ _ _ _ _ _ _ _ _ _ _ _ _ _ _ _ _ _ _ _ _ _ _ _ _ _ _ _ _ _ _ _ _ _ _ _ _ _ _ _ _ _ _ _ _ _ _ _ _ _ _ _ _ _ _ _ _ ?_
        intro t10 t22 t23 t24 t125 t126 t127 t128 t129 t130 t131 t132 t133 t134 t135 t136 t137 t138 t139 t140 t141 t142 t143 t144 t145 t146 t147 t148 t149 t150 t151 t152 t153 t154 t155 t156 t157 t158 t159 t160 t161 t162 t163 t164 t165 t166 t167 t168 t169 t170 t171 t172 t173 t174 t175 t176 wx hbx
        go_wp2_with fail
        go_ret
        exact ⟨rfl, below2 hbw9 hbx⟩
end Go.Proofs.Ytcaklldmcbpbfaa
