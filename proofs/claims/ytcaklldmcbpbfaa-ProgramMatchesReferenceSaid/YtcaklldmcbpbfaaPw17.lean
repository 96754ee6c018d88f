/- The walk of the law's sane: it returns true. No condition. -/
import Derived.Test.YtcaklldmcbpbfaaPw16
import Derived.ArgAppend
namespace Go.Proofs.Ytcaklldmcbpbfaa
open Go.RowKit

def tiP : ProgD := ⟨3, [⟨0, 0, 0, 0, [2, 3, 1], 5⟩, ⟨0, 0, 0, 0, [1, 0, 1], 1⟩, ⟨0, 0, 0, 0, [-1, -1, -1], -3⟩], [5, 4, 3]⟩
def firstVar (s : SolD) : Int := (s.proof.getD 0 st0).var
theorem sol_ex : (solveF exP).found = true ∧ (solveF exP).set = 3 ∧ (solveF exP).gain = 9 ∧ 0 < (solveF exP).proof.length ∧ firstVar (solveF exP) = 0 ∧ errF exP = 0 := by decide +kernel
theorem sol_ti : (solveF tiP).found = false ∧ (solveF tiP).set = 0 ∧ (solveF tiP).gain = 0 ∧ 0 < (solveF tiP).proof.length ∧ errF tiP = 0 := by decide +kernel
theorem err_one : errF ⟨1, [], []⟩ = 330 := by decide +kernel
theorem all_ex : allF exP = [0, 1, 2, 3, 4, 6] := by decide +kernel
theorem wo_ti : (withoutF tiP [2]).vars = 3 ∧ errW tiP [2] = 0 ∧ errW exP [2] = 330 := by decide +kernel
theorem wo_ti2 : withoutF tiP [2] = exP := by rfl
theorem ex_rest : brokenF exP 5 = [1] ∧ sumF ⟨0, 0, 0, 0, [2, 3, 1], 5⟩ 5 = 3 ∧ gainF exP 6 = 7 ∧ keepsB exP 6 = true ∧ keepsB exP 5 = false ∧ validB exP = true ∧ validB ⟨13, [], []⟩ = false := by decide +kernel
set_option maxRecDepth 100000 in
set_option maxHeartbeats 4000000 in
theorem sane_any (w : World) : Calls Try.prog 10 #[] w (Ret (.bool true) w) := by
  go_enter Try.func10, Try.ntmps10
  go_wp2_with fail
  refine (example_any _).mono ?_
  rintro e w1 ⟨b, c, rfl, hr, hg, hb1⟩
  have hr1 : RowsAt w1 _ _ := hr.keeps (keeps_frm _ _)
  have hg1 : IntsAt w1 _ _ := hg.keeps (keeps_frm _ _)
  go_wp2_with fail
  obtain ⟨W1, hWW1, hbW1, -, -⟩ := boxed w1 #[.int .i64 3, (.slice (some ⟨b, 0, none⟩) 2 2), (.slice (some ⟨c, 0, none⟩) 3 3)] 29
  have BW1 : Blk W1 w1.heap.size [.int .i64 3, (.slice (some ⟨b, 0, none⟩) 2 2), (.slice (some ⟨c, 0, none⟩) 3 3)] 29 := by rw [← hWW1]; exact Blk.new w1 _ _
  rw [hWW1]
  clear hWW1
  have hb := below2 hb1 hbW1
  have hr := hr1.below hbW1
  have hg := hg1.below hbW1
  refine (solve_any exP _ _ _ hr hg).mono ?_
  rintro e w2 ⟨sv, u, rfl, ⟨⟨pv, rfl, hpv⟩, rfl⟩, hb2⟩
  obtain ⟨pa, pn, rfl, -, -, h3⟩ := hpv
  obtain ⟨pb, po, wv, rfl, c0, -⟩ := h3 0 sol_ex.2.2.2.1
  rw [show ((solveF exP).proof.getD 0 st0).var = 0 from sol_ex.2.2.2.2.1] at c0
  have c0 := keeps_frm _ _ _ _ c0
  simp at c0
  have hn1 := sol_ex.2.2.2.1
  rw [sol_ex.1, sol_ex.2.1, sol_ex.2.2.1, sol_ex.2.2.2.2.2]
  clear h3
  generalize (solveF exP).proof.length = n1 at hn1 ⊢
  have hr2 := hr.below hb2
  have hg2 := hg.below hb2
  have BW2 := BW1.later hb2
  have k0 := BW2.cell 0 rfl
  have k1 := BW2.cell 1 rfl
  have k2 := BW2.cell 2 rfl
  have hb := below2 hb hb2
  have hl2 := BW2.lt
  go_wp2_with fail
  obtain ⟨W2, hWW2, hbW2, -, -⟩ := boxed w2 #[(.bool true), (.int .i64 3), (.int .i64 9), (.slice (some ⟨pb, po, none⟩) n1 pn)] 37
  have BW2 : Blk W2 w2.heap.size [(.bool true), (.int .i64 3), (.int .i64 9), (.slice (some ⟨pb, po, none⟩) n1 pn)] 37 := by rw [← hWW2]; exact Blk.new w2 _ _
  rw [hWW2]
  clear hWW2
  refine (all_any exP _ _ _ (hr2.below hbW2) (hg2.below hbW2)).mono ?_
  rintro e w3 ⟨lv, u, rfl, ⟨hlv, rfl⟩, hb3⟩
  rw [all_ex] at hlv
  rw [sol_ex.2.2.2.2.2]
  obtain ⟨la, ln, rfl, -, -, -⟩ := id hlv
  clear k0 k1 k2
  go_wp2_with fail
  refine (example_any _).mono ?_
  rintro e w4 ⟨b', c', rfl, hr4, hg4, hb4⟩
  obtain ⟨i0, hi, hz0, hz1, hz2⟩ := info_parts infoRow
  have HI := hide (And.intro hi (And.intro hz0 (And.intro hz1 hz2)))
  obtain ⟨Lr, hLr1, hLr2, hLr3, hLr4, -⟩ := rows_list hr4
  have H1 := hide hLr1
  have H2 := hide hLr2
  have H3 := hide hLr3
  have H4 := hide fun j u hj => keeps_frm _ _ _ _ (hLr4 _ rfl j u hj)
  have hg4' : IntsAt w4 _ _ := hg4.keeps (keeps_frm _ _)
  clear hi hz0 hz1 hz2 hLr1 hLr2 hLr3 hLr4
  go_wp2_with (at_builtin; generalize h6 : World.alloc w4 _ = A6; have z6 : A6.heap.size = w4.heap.size + 1 := (by rw [← h6]; simp); generalize h7 : World.alloc A6 _ = A7; have z7 : A7.heap.size = w4.heap.size + 1 + 1 := (by rw [← h7, ← z6]; simp); have B6 : Blk A6 w4.heap.size [.int .i64 3, .slice (some ⟨b', 0, none⟩) 2 2, .slice (some ⟨c', 0, none⟩) 3 3] 29 := (by rw [← h6]; exact Blk.new w4 _ _); have I7 : Blk A7 (w4.heap.size + 1) ([-1, -1, -1].map (Value.int .i64)) 3 := (by rw [← h7, ← z6]; exact Blk.new A6 _ _); have b67 : Below w4.heap.size w4 A7 := (by rw [← h7, ← h6]; exact (bal w4 _).alloc (by simp) _); have B7 : Blk A7 w4.heap.size [.int .i64 3, .slice (some ⟨b', 0, none⟩) 2 2, .slice (some ⟨c', 0, none⟩) 3 3] 29 := (by rw [← h7]; exact B6.old _); clear h6 h7; refine wpList_append_grows _ rfl _ _ 27 rfl 26 i0 _ 6 64 Try.underlying27 HI.out.1 HI.out.2.1 HI.out.2.2.1 HI.out.2.2.2 rfl (by decide) (some ⟨b', 0, none⟩) 2 2 Lr.flatten rfl (fun e => by cases e) (by rw [flat_len H2.out, H1.out]; rfl) (fun b0 e0 j u hj => by cases e0; exact keep (below2 b67 (bal A7 _)) (H4.out j u hj)) ⟨w4.heap.size + 1 + 1, 0, none⟩ 1 1 (rowCells ⟨0, 0, 0, 0, [-1, -1, -1], -3⟩ (.slice (some ⟨w4.heap.size + 1, 0, none⟩) 3 3)) rfl rfl (by rw [← z7]; exact news_at A7 _ _) cells6 (by omega) (by unfold maxLen; omega) (by omega) ?_; intro v' W8 hown hgrow; obtain ⟨vg, vn, rfl⟩ := ownsRow_succ hown; have b78 := below2 (bal A7 (.cells (rowCells ⟨0, 0, 0, 0, [-1, -1, -1], -3⟩ (.slice (some ⟨w4.heap.size + 1, 0, none⟩) 3 3)).toArray 26)) (below_of_grown hgrow); have B8 := B7.later b78; have y0 := B8.cell 0 rfl; have y1 := B8.cell 1 rfl; have y2 := B8.cell 2 rfl; have f1 := B8.frozen 1)
  have BT := B8.set 1 (.slice (some ⟨vg, 0, none⟩) 3 vn)
  have b89 : Below w4.heap.size w4 (W8.setCell ⟨w4.heap.size, 1, none⟩ (.slice (some ⟨vg, 0, none⟩) 3 vn)) := (below2 b67 b78).setCell (p := ⟨w4.heap.size, 1, none⟩) (Nat.le_refl _) _
  have hO8 : OwnR W8 (A7.alloc (.cells (rowCells ⟨0, 0, 0, 0, [-1, -1, -1], -3⟩ (.slice (some ⟨w4.heap.size + 1, 0, none⟩) 3 3)).toArray 26)).heap.size 26 6 (.slice (some ⟨vg, 0, none⟩) 3 vn) (Lr ++ [rowCells ⟨0, 0, 0, 0, [-1, -1, -1], -3⟩ (.slice (some ⟨w4.heap.size + 1, 0, none⟩) 3 3)]) := by
    refine ⟨?_, fun r hr => ?_⟩
    · rw [List.length_append, List.flatten_append, H1.out]
      show W8.ownsRow _ _ _ _ (2 + 1) _
      simpa using hown
    · rcases List.mem_append.1 hr with h1 | h1
      · exact H2.out r h1
      · simp at h1; rw [h1]; rfl
  have hRT : RowsAt (W8.setCell ⟨w4.heap.size, 1, none⟩ (.slice (some ⟨vg, 0, none⟩) 3 vn)) (.slice (some ⟨vg, 0, none⟩) 3 vn) tiP.rows := by
    have hO9 : OwnR (W8.setCell ⟨w4.heap.size, 1, none⟩ (.slice (some ⟨vg, 0, none⟩) 3 vn)) _ _ _ _ _ := ⟨ownsRow_setCell_below hO8.1 (show w4.heap.size < _ by simp; omega) _, hO8.2⟩
    refine hO9.rows (l := tiP.rows) (by rw [List.length_append, H1.out]; rfl) fun i hi => ?_
    have hk49 := keeps_of_below b89
    match i, hi with
    | 0, _ => obtain ⟨cv, e, hc⟩ := H3.out 0 (by decide); exact ⟨cv, by rw [getD_app_left _ _ _ _ (by rw [H1.out]; decide), e]; rfl, (hc.keeps (keeps_frm _ _)).keeps hk49⟩
    | 1, _ => obtain ⟨cv, e, hc⟩ := H3.out 1 (by decide); exact ⟨cv, by rw [getD_app_left _ _ _ _ (by rw [H1.out]; decide), e]; rfl, (hc.keeps (keeps_frm _ _)).keeps hk49⟩
    | 2, _ => exact ⟨_, by rw [getD_app_right _ _ _ _ (by rw [H1.out]; decide), H1.out]; rfl, (((I7.later b78).other (show w4.heap.size + 1 ≠ w4.heap.size by omega) 1 _).ints (B := 0) (Nat.zero_le _) (by decide)).keeps (keeps_frm _ _)⟩
  have hGT : IntsAt (W8.setCell ⟨w4.heap.size, 1, none⟩ (.slice (some ⟨vg, 0, none⟩) 3 vn)) (.slice (some ⟨c', 0, none⟩) 3 3) tiP.gain := hg4'.below b89
  have bT0 := below2 (below2 hbW2 hb3) (below2 hb4 b89)
  clear hO8 hown hgrow B8 y0 y1 y2 f1 b78 b67 B7 B6 I7 z6 z7 HI H1 H2 H3 H4
  generalize World.setCell W8 _ _ = W9 at BT b89 hRT hGT bT0 ⊢
  refine (solve_any tiP _ _ _ hRT hGT).mono ?_
  rintro e w5 ⟨sv, u, rfl, ⟨⟨qv, rfl, hqv⟩, rfl⟩, hb5⟩
  obtain ⟨qa, qn, rfl, -, -, -⟩ := hqv
  have hn2 := sol_ti.2.2.2.1
  rw [sol_ti.1, sol_ti.2.1, sol_ti.2.2.1, sol_ti.2.2.2.2]
  generalize (solveF tiP).proof.length = n2 at hn2 ⊢
  go_wp2_with fail
  obtain ⟨W5, hWW5, hbW5, -, -⟩ := boxed w5 #[(.bool false), (.int .i64 0), (.int .i64 0), (.slice qa n2 qn)] 37
  have BW5 : Blk W5 w5.heap.size [(.bool false), (.int .i64 0), (.int .i64 0), (.slice qa n2 qn)] 37 := by rw [← hWW5]; exact Blk.new w5 _ _
  rw [hWW5]
  clear hWW5
  refine (solve_any ⟨1, [], []⟩ (.slice none 0 0) (.slice none 0 0) W5 (RowsIn.nil _) (IntsIn.nil _)).mono ?_
  rintro e w6 ⟨sv, u, rfl, ⟨⟨ov, rfl, hov⟩, rfl⟩, hb6⟩
  obtain ⟨oa, on, rfl, -, -, -⟩ := hov
  rw [err_one]
  have bT6 := below2 hb5 (below2 hbW5 hb6)
  have BT6 := BT.later bT6
  have k0 := BT6.cell 0 rfl
  have k1 := BT6.cell 1 rfl
  have k2 := BT6.cell 2 rfl
  have hlT := BT6.lt
  go_wp2_with fail
  generalize h6 : World.alloc w6 _ = A6
  have z6 : A6.heap.size = w6.heap.size + 1 := by rw [← h6]; simp
  generalize h7 : World.alloc A6 _ = A7
  have I7 : Blk A7 (w6.heap.size + 1) ([2].map (Value.int .i64)) 3 := by rw [← h7, ← z6]; exact Blk.new A6 _ _
  have b67 : Below w6.heap.size w6 A7 := by rw [← h7, ← h6]; exact (bal w6 _).alloc (by simp) _
  clear h6 h7 z6 k0 k1 k2
  have bT7 := below2 bT6 b67
  refine (without_any tiP _ _ _ [2] A7 (hRT.below bT7) (hGT.below bT7) ((I7.ints (B := 0) (Nat.zero_le _) (by decide)).keeps (keeps_frm _ _)) (by decide)).mono ?_
  rintro e w8 ⟨wv, u, rfl, ⟨⟨xv, yv, rfl, hx, hy⟩, rfl⟩, hb8⟩
  rw [wo_ti2] at hx hy ⊢
  rw [wo_ti.2.1]
  obtain ⟨xa, xn, ex, -⟩ := id hx
  have ex : xv = .slice xa 2 xn := ex
  subst ex
  obtain ⟨ya, yn, ey, -⟩ := id hy
  have ey : yv = .slice ya 3 yn := ey
  subst ey
  have b08 := below2 (below2 (below2 hb2 bT0) bT6) (below2 b67 hb8)
  have BP8 := BW1.later b08
  have hr8 := hr.below b08
  have hg8 := hg.below b08
  have k0 := BP8.cell 0 rfl
  have k1 := BP8.cell 1 rfl
  have k2 := BP8.cell 2 rfl
  have hl8 := BP8.lt
  go_wp2_with fail
  generalize h6 : World.alloc w8 _ = A8
  have z8 : A8.heap.size = w8.heap.size + 1 := by rw [← h6]; simp
  have BX : Blk A8 w8.heap.size [.int .i64 3, .slice xa 2 xn, .slice ya 3 yn] 29 := by rw [← h6]; exact Blk.new w8 _ _
  generalize h7 : World.alloc A8 _ = A9
  have I9 : Blk A9 (w8.heap.size + 1) ([2].map (Value.int .i64)) 3 := by rw [← h7, ← z8]; exact Blk.new A8 _ _
  have b88 : Below w8.heap.size w8 A8 := by rw [← h6]; exact bal w8 _
  have b89' : Below A8.heap.size A8 A9 := by rw [← h7]; exact bal A8 _
  clear h6 h7 z8 k0 k1 k2
  have b09 := below2 b88 b89'
  refine (without_any exP _ _ _ [2] A9 (hr8.below b09) (hg8.below b09) ((I9.ints (B := 0) (Nat.zero_le _) (by decide)).keeps (keeps_frm _ _)) (by decide)).mono ?_
  rintro e w10 ⟨wv, u, rfl, ⟨⟨xv, yv, rfl, hxx, hyy⟩, rfl⟩, hb10⟩
  rw [wo_ti.2.2]
  obtain ⟨va, vn', rfl, -⟩ := id hxx
  obtain ⟨ua, un', rfl, -⟩ := id hyy
  have b10 := below2 b09 hb10
  have BP10 := BP8.later b10
  have k0 := BP10.cell 0 rfl
  have k1 := BP10.cell 1 rfl
  have k2 := BP10.cell 2 rfl
  have BS10 := ((BW2.later hb3).later (below2 (below2 hb4 b89) bT6)).later (below2 (below2 b67 hb8) b10)
  have s0 := BS10.cell 0 rfl
  have s1 := BS10.cell 1 rfl
  have s2 := BS10.cell 2 rfl
  have s3 := BS10.cell 3 rfl
  have bW5 := below2 hb6 (below2 (below2 b67 hb8) b10)
  have BN10 := BW5.later bW5
  have n0 := BN10.cell 0 rfl
  have n1' := BN10.cell 1 rfl
  have n2' := BN10.cell 2 rfl
  have n3 := BN10.cell 3 rfl
  have BX10 := (BX.later b89').later hb10
  have x0 := BX10.cell 0 rfl
  have x1 := BX10.cell 1 rfl
  have x2 := BX10.cell 2 rfl
  have lP := BP10.lt
  have lS := BS10.lt
  have lN := BN10.lt
  have lX := BX10.lt
  have b2_10 := below2 hbW2 (below2 hb3 (below2 (below2 hb4 b89) (below2 bT6 (below2 (below2 b67 hb8) b10))))
  have c10 := keep b2_10 c0
  have lC := lt_of_cell c10
  have n1p : ¬ (n1 : Int) = 0 := by omega
  have n2p : ¬ (n2 : Int) = 0 := by omega
  have n1q : ((n1 : Int) == 0) = false := by simpa using n1p
  have n2q : ((n2 : Int) == 0) = false := by simpa using n2p
  clear n1p n2p
  have hr10 := hr8.below b10
  have hg10 := hg8.below b10
  go_wp2_with fail
  generalize h6 : World.alloc w10 _ = A10
  have z10 : A10.heap.size = w10.heap.size + 1 := by rw [← h6]; simp
  generalize h7 : World.alloc A10 _ = A11
  have I11 : Blk A11 (w10.heap.size + 1) ([0, 1, 2, 3, 4, 6].map (Value.int .i64)) 3 := by rw [← h7, ← z10]; exact Blk.new A10 _ _
  have b10a : Below w10.heap.size w10 A11 := by rw [← h7, ← h6]; exact (bal w10 _).alloc (by simp) _
  clear h6 h7 z10 k0 k1 k2 x0 x1 x2 s0 s1 s2 s3 n0 n1' n2' n3 c10
  have hlv11 := ((hlv.keeps (keeps_frm _ _)).keeps (keeps_of_below (below2 (below2 (below2 hb4 b89) bT6) (below2 (below2 b67 hb8) b10)))).keeps (keeps_of_below b10a)
  refine (ints_any [0, 1, 2, 3, 4, 6] [0, 1, 2, 3, 4, 6] _ _ A11 hlv11 ((I11.ints (B := 0) (Nat.zero_le _) (by decide)).keeps (keeps_frm _ _))).mono ?_
  rw [show intsB [0, 1, 2, 3, 4, 6] [0, 1, 2, 3, 4, 6] = true from rfl]
  rintro e w12 ⟨rfl, hb12⟩
  have c12 := below2 b10a hb12
  have BP12 := BP10.later c12
  have BX12 := BX10.later c12
  have k0 := BP12.cell 0 rfl
  have k1 := BP12.cell 1 rfl
  have k2 := BP12.cell 2 rfl
  have x0 := BX12.cell 0 rfl
  have x1 := BX12.cell 1 rfl
  have x2 := BX12.cell 2 rfl
  have hr12 := hr10.below c12
  have hg12 := hg10.below c12
  have lP := BP12.lt
  have lX := BX12.lt
  go_wp2_with fail
  refine (broken_any exP _ _ 5 _ hr12 hg12).mono ?_
  rintro e w13 ⟨bv, rfl, hbv, hb13⟩
  rw [ex_rest.1] at hbv
  obtain ⟨bva, bvn, rfl, -⟩ := id hbv
  have BP13 := BP12.later hb13
  have BX13 := BX12.later hb13
  have k0 := BP13.cell 0 rfl
  have k1 := BP13.cell 1 rfl
  have k2 := BP13.cell 2 rfl
  have x0 := BX13.cell 0 rfl
  have x1 := BX13.cell 1 rfl
  have x2 := BX13.cell 2 rfl
  have hr13 := hr12.below hb13
  have hg13 := hg12.below hb13
  have lP := BP13.lt
  have lX := BX13.lt
  go_wp2_with fail
  refine (ints_any [1] [1] _ _ _ ((hbv.keeps (keeps_frm _ _)).keeps (keeps_of_below (bal w13 _))) (((Blk.new w13 ([1].map (Value.int .i64)) 3).ints (B := 0) (Nat.zero_le _) (by decide)).keeps (keeps_frm _ _))).mono ?_
  rw [show intsB [1] [1] = true from rfl]
  rintro e w14 ⟨rfl, hb14⟩
  have c14 := below2 (bal w13 _) hb14
  have BP14 := BP13.later c14
  have BX14 := BX13.later c14
  have k0 := BP14.cell 0 rfl
  have k1 := BP14.cell 1 rfl
  have k2 := BP14.cell 2 rfl
  have x0 := BX14.cell 0 rfl
  have x1 := BX14.cell 1 rfl
  have x2 := BX14.cell 2 rfl
  have hr14 := hr13.below c14
  have hg14 := hg13.below c14
  have lP := BP14.lt
  have lX := BX14.lt
  obtain ⟨rb, ro, rcv, re, q0, q1, q2, q3, q4, q5, q6⟩ : ∃ b0 o0 cv, (some ⟨b, 0, none⟩ : Option Addr) = some ⟨b0, o0, none⟩ ∧ RowAt w14 b0 (o0 + 0 * 6) cv ⟨0, 0, 0, 0, [2, 3, 1], 5⟩ := by
    obtain ⟨a0, n0, e0, -, -, h0⟩ := hr14
    cases e0
    exact h0 0 (by decide)
  cases re
  obtain ⟨rca, rcn, rfl, -⟩ := id q6
  go_wp2_with fail
  refine (sum_any ⟨0, 0, 0, 0, [2, 3, 1], 5⟩ _ 5 _ q6).mono ?_
  rw [ex_rest.2.1]
  rintro e w15 ⟨rfl, hb15⟩
  have BP15 := BP14.later hb15
  have BX15 := BX14.later hb15
  have k0 := BP15.cell 0 rfl
  have k1 := BP15.cell 1 rfl
  have k2 := BP15.cell 2 rfl
  have x0 := BX15.cell 0 rfl
  have x1 := BX15.cell 1 rfl
  have x2 := BX15.cell 2 rfl
  have hr15 := hr14.below hb15
  have hg15 := hg14.below hb15
  have lP := BP15.lt
  have lX := BX15.lt
  clear q0 q1 q2 q3 q4 q5 q6
  go_wp2_with fail
  refine (gain_any exP _ _ 6 _ hr15 hg15).mono ?_
  rw [ex_rest.2.2.1]
  rintro e w16 ⟨rfl, hb16⟩
  have BP16 := BP15.later hb16
  have BX16 := BX15.later hb16
  have k0 := BP16.cell 0 rfl
  have k1 := BP16.cell 1 rfl
  have k2 := BP16.cell 2 rfl
  have x0 := BX16.cell 0 rfl
  have x1 := BX16.cell 1 rfl
  have x2 := BX16.cell 2 rfl
  have hr16 := hr15.below hb16
  have hg16 := hg15.below hb16
  have lP := BP16.lt
  have lX := BX16.lt
  go_wp2_with fail
  refine (keepsP_any exP _ _ 6 _ hr16 hg16).mono ?_
  rw [ex_rest.2.2.2.1]
  rintro e w17 ⟨rfl, hb17⟩
  have BP17 := BP16.later hb17
  have BX17 := BX16.later hb17
  have k0 := BP17.cell 0 rfl
  have k1 := BP17.cell 1 rfl
  have k2 := BP17.cell 2 rfl
  have x0 := BX17.cell 0 rfl
  have x1 := BX17.cell 1 rfl
  have x2 := BX17.cell 2 rfl
  have hr17 := hr16.below hb17
  have hg17 := hg16.below hb17
  have lP := BP17.lt
  have lX := BX17.lt
  go_wp2_with fail
  refine (keepsP_any exP _ _ 5 _ hr17 hg17).mono ?_
  rw [ex_rest.2.2.2.2.1]
  rintro e w18 ⟨rfl, hb18⟩
  have BP18 := BP17.later hb18
  have BX18 := BX17.later hb18
  have k0 := BP18.cell 0 rfl
  have k1 := BP18.cell 1 rfl
  have k2 := BP18.cell 2 rfl
  have x0 := BX18.cell 0 rfl
  have x1 := BX18.cell 1 rfl
  have x2 := BX18.cell 2 rfl
  have hr18 := hr17.below hb18
  have hg18 := hg17.below hb18
  have lP := BP18.lt
  have lX := BX18.lt
  go_wp2_with fail
  refine (valid_any exP _ _ _ hr18 hg18).mono ?_
  rw [ex_rest.2.2.2.2.2.1]
  rintro e w19 ⟨rfl, hb19⟩
  have BP19 := BP18.later hb19
  have BX19 := BX18.later hb19
  have k0 := BP19.cell 0 rfl
  have k1 := BP19.cell 1 rfl
  have k2 := BP19.cell 2 rfl
  have x0 := BX19.cell 0 rfl
  have x1 := BX19.cell 1 rfl
  have x2 := BX19.cell 2 rfl
  have hr19 := hr18.below hb19
  have hg19 := hg18.below hb19
  have lP := BP19.lt
  have lX := BX19.lt
  go_wp2_with fail
  refine (valid_any ⟨13, [], []⟩ (.slice none 0 0) (.slice none 0 0) w19 (RowsIn.nil _) (IntsIn.nil _)).mono ?_
  rw [ex_rest.2.2.2.2.2.2]
  rintro e w20 ⟨rfl, hb20⟩
  have BP20 := BP19.later hb20
  have BX20 := BX19.later hb20
  have k0 := BP20.cell 0 rfl
  have k1 := BP20.cell 1 rfl
  have k2 := BP20.cell 2 rfl
  have x0 := BX20.cell 0 rfl
  have x1 := BX20.cell 1 rfl
  have x2 := BX20.cell 2 rfl
  have hr20 := hr19.below hb20
  have hg20 := hg19.below hb20
  have lP := BP20.lt
  have lX := BX20.lt
  have c20 := below2 (below2 b89' hb10) (below2 c12 (below2 (below2 hb13 c14) (below2 (below2 hb15 hb16) (below2 (below2 hb17 hb18) (below2 hb19 hb20)))))
  have hx20 : RowsAt w20 _ _ := (hx.keeps (keeps_frm _ _)).keeps (keeps_of_below (below2 b88 c20))
  have hy20 : IntsAt w20 _ _ := (hy.keeps (keeps_frm _ _)).keeps (keeps_of_below (below2 b88 c20))
  go_wp2_with fail
  refine (same_true exP _ _ _ _ w20 hx20 hy20 hr20 hg20).mono ?_
  rintro e w21 ⟨rfl, hb21⟩
  go_wp2_with fail
  go_ret
  exact ⟨rfl, below2 (below2 hb1 hbW1) (below2 b08 (below2 b88 (below2 c20 hb21)))⟩
end Go.Proofs.Ytcaklldmcbpbfaa
