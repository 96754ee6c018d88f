/- The walk of ProgramMatchesReference. Conditions: how the arguments lie in memory; that integers are of 64 bits. -/
import Derived.Test.YtcaklldmcbpbfaaPxE
import Derived.Test.YtcaklldmcbpbfaaPxF
import Derived.Test.YtcaklldmcbpbfaaPxL
import Derived.Test.YtcaklldmcbpbfaaLwA
import Derived.Deep.DeepCutAuto
namespace Go.Proofs.Ytcaklldmcbpbfaa
open Go.RowKit

theorem OwnR.frozenAt6 {W : World} {B g n c : Nat} {L : List (List Value)} (h : OwnR W B 26 6 (.slice (some ⟨g, 0, none⟩) n c) L) (j : Nat) : W.frozen? ⟨g, j, none⟩ = false := by
  have hn : n = L.length := by
    rcases h.form with ⟨h1, -⟩ | ⟨g', c', cur, e1, -⟩
    · cases h1
    · cases e1; rfl
  subst hn
  exact h.frozen j
theorem OwnR.cellAt6 {W : World} {B g n c : Nat} {L : List (List Value)} (h : OwnR W B 26 6 (.slice (some ⟨g, 0, none⟩) n c) L) (hn : L.length = n) {i : Nat} (hi : i < n) :
    ∃ y0 y1 y2 y3 y4 y5, W.cell? ⟨g, i * 6, none⟩ = some y0 ∧ W.cell? ⟨g, i * 6 + 1, none⟩ = some y1 ∧ W.cell? ⟨g, i * 6 + 2, none⟩ = some y2 ∧ W.cell? ⟨g, i * 6 + 3, none⟩ = some y3 ∧ W.cell? ⟨g, i * 6 + 4, none⟩ = some y4 ∧ W.cell? ⟨g, i * 6 + 5, none⟩ = some y5 := by
  have hl : i < L.length := by omega
  have h6 := h.2 _ (getD_mem L i (d := []) hl)
  have key : ∀ j, j < 6 → ∃ y, W.cell? ⟨g, i * 6 + j, none⟩ = some y := fun j hj => ⟨(L.getD i [])[j], h.cell i j hl hj (List.getElem?_eq_getElem (by omega))⟩
  obtain ⟨y0, h0⟩ := key 0 (by omega)
  obtain ⟨y1, h1⟩ := key 1 (by omega)
  obtain ⟨y2, h2⟩ := key 2 (by omega)
  obtain ⟨y3, h3⟩ := key 3 (by omega)
  obtain ⟨y4, h4⟩ := key 4 (by omega)
  obtain ⟨y5, h5⟩ := key 5 (by omega)
  exact ⟨y0, y1, y2, y3, y4, y5, h0, h1, h2, h3, h4, h5⟩
theorem OwnR.setN {W : World} {B g n c k : Nat} {e : TypeId} {L : List (List Value)} (h : OwnR W B e k (.slice (some ⟨g, 0, none⟩) n c) L) (i j : Nat) (hi : i < n) (hj : j < k) (u : Value) :
    OwnR (W.setCell ⟨g, i * k + j, none⟩ u) B e k (.slice (some ⟨g, 0, none⟩) n c) (L.set i ((L.getD i []).set j u)) := by
  have hn : n = L.length := by
    rcases h.form with ⟨h1, -⟩ | ⟨g', c', cur, e1, -⟩
    · cases h1
    · cases e1; rfl
  subst hn
  exact h.set i j hi hj u
theorem set_again {α : Type} (L : List (List α)) (i : Nat) (a : List α) (j : Nat) (u : α) (hi : i < L.length) : (L.set i a).set i (((L.set i a).getD i []).set j u) = L.set i (a.set j u) := by
  rw [getD_set_eq' _ hi, List.set_set]
theorem len6' {α : Type} {l : List α} (h : l.length = 6) : ∃ a0 a1 a2 a3 a4 a5, l = [a0, a1, a2, a3, a4, a5] := by
  match l, h with
  | [a, b, c, d, e, f], _ => exact ⟨_, _, _, _, _, _, rfl⟩
theorem OwnR.put6 {W : World} {B g n c : Nat} {L : List (List Value)} (h : OwnR W B 26 6 (.slice (some ⟨g, 0, none⟩) n c) L) (hn : L.length = n) (i : Nat) (hi : i < n) (u0 u1 u2 u3 u4 u5 : Value) :
    OwnR ((((((W.setCell ⟨g, i * 6, none⟩ u0).setCell ⟨g, i * 6 + 1, none⟩ u1).setCell ⟨g, i * 6 + 2, none⟩ u2).setCell ⟨g, i * 6 + 3, none⟩ u3).setCell ⟨g, i * 6 + 4, none⟩ u4).setCell ⟨g, i * 6 + 5, none⟩ u5) B 26 6 (.slice (some ⟨g, 0, none⟩) n c) (L.set i [u0, u1, u2, u3, u4, u5]) ∧
    EffE B 26 W ((((((W.setCell ⟨g, i * 6, none⟩ u0).setCell ⟨g, i * 6 + 1, none⟩ u1).setCell ⟨g, i * 6 + 2, none⟩ u2).setCell ⟨g, i * 6 + 3, none⟩ u3).setCell ⟨g, i * 6 + 4, none⟩ u4).setCell ⟨g, i * 6 + 5, none⟩ u5) := by
  have hl : i < L.length := by omega
  obtain ⟨a0, a1, a2, a3, a4, a5, ha⟩ := len6' (h.2 _ (getD_mem L i (d := []) hl))
  have s0 := h.setN i 0 hi (by omega) u0
  rw [ha, Nat.add_zero] at s0
  have s1 := s0.setN i 1 hi (by omega) u1
  rw [set_again _ _ _ _ _ hl] at s1
  have s2 := s1.setN i 2 hi (by omega) u2
  rw [set_again _ _ _ _ _ hl] at s2
  have s3 := s2.setN i 3 hi (by omega) u3
  rw [set_again _ _ _ _ _ hl] at s3
  have s4 := s3.setN i 4 hi (by omega) u4
  rw [set_again _ _ _ _ _ hl] at s4
  have s5 := s4.setN i 5 hi (by omega) u5
  rw [set_again _ _ _ _ _ hl] at s5
  exact ⟨s5, (((((EffE.setRow h u0).trans (EffE.setRow s0 u1)).trans (EffE.setRow s1 u2)).trans (EffE.setRow s2 u3)).trans (EffE.setRow s3 u4)).trans (EffE.setRow s4 u5)⟩
set_option maxRecDepth 100000 in
set_option maxHeartbeats 8000000 in
theorem matches_any (v : Int) (x : List Tri) (xv : Value) (g : List Int) (odd : RowD) (ocv : Value) (wh : Int) (raw : ProgD) (rrv rgv : Value) (set : Int) (rl : List Int) (rlv : Value) (bits : Int) (w : World) (hv : i64B v) (hx : TrisIn w.cell? xv x) (hx64 : ∀ t ∈ x, tri64 t) (hg : g.length = 8) (hg64 : ∀ y ∈ g, i64B y)
    (ho : IntsAt w ocv odd.coef) (kw : i64B wh) (hr : RowsAt w rrv raw.rows) (hrg : IntsAt w rgv raw.gain) (ks : i64B set) (hl : IntsAt w rlv rl) (kb : i64B bits) :
    Calls Try.prog 3 #[.int .i64 v, xv, .agg (g.map (Value.int .i64)).toArray, rowV odd ocv, .int .i64 wh, progV raw rrv rgv, .int .i64 set, rlv, .int .i64 bits] w (Ret (.bool true) w) := by
  obtain ⟨g0, g1, g2, g3, g4, g5, g6, g7, rfl⟩ : ∃ g0 g1 g2 g3 g4 g5 g6 g7, g = [g0, g1, g2, g3, g4, g5, g6, g7] := by
    match g, hg with
    | [a, b, c, d, e, f, g, h], _ => exact ⟨_, _, _, _, _, _, _, _, rfl⟩
  obtain ⟨xa, xn, rfl, hx1, hx2, -⟩ := id hx
  have HMO := hide (fun W (h : Below w.heap.size w W) => made_own v x (.slice xa x.length xn) [g0, g1, g2, g3, g4, g5, g6, g7] W hv (TrisIn.keeps (keeps_of_below h) hx) hx64 hg hg64)
  have HM := hide (fun W (h : Below w.heap.size w W) => made_any v x (.slice xa x.length xn) [g0, g1, g2, g3, g4, g5, g6, g7] W hv (TrisIn.keeps (keeps_of_below h) hx) hx64 hg hg64)
  have HFW := hide (fun W (h : Below w.heap.size w W) => few_any raw rrv rgv W (hr.below h) (hrg.below h))
  obtain ⟨oa, oc, rfl, hoc1, hoc2, -⟩ := id ho
  obtain ⟨la, lc, rfl, hlc1, hlc2, -⟩ := id hl
  obtain ⟨rra, rrc, rfl, -, -, -⟩ := id hr
  obtain ⟨rga, rgc, rfl, -, -, -⟩ := id hrg
  obtain ⟨om, hom⟩ : ∃ om, om = min odd.coef.length 13 := ⟨_, rfl⟩
  have hmin : (if (13 : Int) < (odd.coef.length : Int) then (13 : Int) else (odd.coef.length : Int)) = (om : Int) := by split <;> omega
  have hom1 : om ≤ odd.coef.length := by omega
  have hom2 : om ≤ oc := by omega
  have hoim : (odd.coef.length : Int) ≤ 9223372036854775807 := by omega
  have HOT : Hid (odd.coef.take 13 = odd.coef.take om) := hide (by rw [hom, take_min13])
  have HOI := hide (ints_take ho hom1)
  obtain ⟨lm, hlm⟩ : ∃ lm, lm = min rl.length 10 := ⟨_, rfl⟩
  have HL10 : Hid ((if (10 : Int) < (rl.length : Int) then (10 : Int) else (rl.length : Int)) = (lm : Int)) := hide (by split <;> omega)
  have HL11 : Hid (lm ≤ rl.length ∧ lm ≤ lc ∧ (rl.length : Int) ≤ 9223372036854775807) := hide ⟨by omega, by omega, by omega⟩
  have HLI := hide (ints_take hl HL11.out.1)
  clear hlm hl hlc1 hlc2
  obtain ⟨n, rows, gain, hmf, hn8, hr8, hV⟩ := made_form v x [g0, g1, g2, g3, g4, g5, g6, g7]
  rw [hmf] at HMO HM
  have HV := hide hV
  clear hx hx64 hg hg64 hr hrg hom ho hmf hV
  go_enter Try.func3, Try.ntmps3
  go_wp2_with fail
  generalize hX1 : World.alloc w _ = X1
  have zX1 : X1.heap.size = w.heap.size + 1 := by rw [← hX1]; simp
  have bX1 : Below w.heap.size w X1 := by rw [← hX1]; exact bal w _
  have bG_1 : Blk X1 (w.heap.size) [.int .i64 g0, .int .i64 g1, .int .i64 g2, .int .i64 g3, .int .i64 g4, .int .i64 g5, .int .i64 g6, .int .i64 g7] 23 := by rw [← hX1]; exact Blk.newA w _ (by first | rfl | simp)
  generalize hX2 : World.alloc X1 _ = X2
  have zX2 : X2.heap.size = w.heap.size + 1 + 1 := by rw [← hX2]; simp [zX1]
  have bX2 : Below X1.heap.size X1 X2 := by rw [← hX2]; exact bal X1 _
  have bO_2 : Blk X2 (w.heap.size + 1) [.int .i64 odd.kind, .int .i64 odd.a, .int .i64 odd.b, .int .i64 odd.at_, .slice oa odd.coef.length oc, .int .i64 odd.most] 26 := by rw [← hX2, ← zX1]; exact Blk.newA X1 _ (by first | rfl | simp)
  have bG_2 := bG_1.later bX2
  generalize hX3 : World.alloc X2 _ = X3
  have zX3 : X3.heap.size = w.heap.size + 1 + 1 + 1 := by rw [← hX3]; simp [zX2]
  have bX3 : Below X2.heap.size X2 X3 := by rw [← hX3]; exact bal X2 _
  have bW : Blk X3 (w.heap.size + 1 + 1) [.int .i64 raw.vars, .slice rra raw.rows.length rrc, .slice rga raw.gain.length rgc] 29 := by rw [← hX3, ← zX2]; exact Blk.newA X2 _ (by first | rfl | simp)
  have bG := bG_2.later bX3
  have bO := bO_2.later bX3
  have Xb := below2 (below2 (bX1) bX2) bX3
  have Xz := zX3
  clear hX1 zX1 bX1 hX2 zX2 bX2 hX3 zX3 bX3 bG_1 bG_2 bO_2
  refine (sane_any _).mono ?_
  rintro e w1 ⟨rfl, hb1⟩
  have bG1 := bG.later hb1
  have bO1 := bO.later hb1
  have bW1 := bW.later hb1
  have c0 := bG1.cell 0 rfl
  have c1 := bG1.cell 1 rfl
  have c2 := bG1.cell 2 rfl
  have c3 := bG1.cell 3 rfl
  have c4 := bG1.cell 4 rfl
  have c5 := bG1.cell 5 rfl
  have c6 := bG1.cell 6 rfl
  have c7 := bG1.cell 7 rfl
  have o4 := bO1.cell 4 rfl
  have of4 := bO1.frozen 4
  have hbw1 := below2 Xb hb1
  clear bG bO bW
  go_wp2_with fail
  generalize hW2 : World.setCell w1 _ _ = W2
  have bO2 : Blk W2 (w.heap.size + 1) [.int .i64 odd.kind, .int .i64 odd.a, .int .i64 odd.b, .int .i64 odd.at_, .slice oa om oc, .int .i64 odd.most] 26 := by rw [← hW2]; exact bO1.set 4 _
  have bG2 := bG1.other (show w.heap.size ≠ w.heap.size + 1 by omega) 4 (.slice oa om oc)
  have bW2 := bW1.other (show w.heap.size + 1 + 1 ≠ w.heap.size + 1 by omega) 4 (.slice oa om oc)
  have hbw2 : Below w.heap.size w W2 := by rw [← hW2]; exact hbw1.setCell (p := ⟨w.heap.size + 1, 4, none⟩) (Nat.le_succ _) _
  rw [hW2] at bG2 bW2
  clear hW2 c0 c1 c2 c3 c4 c5 c6 c7 o4 of4 bG1 bO1 bW1 hb1 hbw1 hmin
  refine (HMO.out _ hbw2).mono ?_
  rintro e w3 ⟨rv1, gv1, BA, rfl, hBA, hRO, hgY, hb3⟩
  obtain ⟨ra, rc, rfl⟩ := hRO.form
  have hg3 : IntsAt w3 gv1 gain := (hgY.keeps (keeps_frmY _ _ _)).keeps (keeps_frm _ _)
  obtain ⟨ga, gc, rfl, -, -, -⟩ := id hg3
  go_upto_if 60 with (fail)
  generalize hW4 : World.alloc w3 _ = W4
  have hb4 : Below w3.heap.size w3 W4 := by rw [← hW4]; exact bal w3 _
  have bB : Blk W4 w3.heap.size [.int .i64 n, .slice ra rows.length rc, .slice ga gain.length gc] 29 := by rw [← hW4]; exact Blk.newA w3 _ rfl
  have hb24 := below2 hb3 hb4
  have bG4 := bG2.later hb24
  have bO4 := bO2.later hb24
  have bW4 := bW2.later hb24
  have hbw4 := below2 hbw2 hb24
  have hr4 : RowsAt W4 (.slice ra rows.length rc) rows := RowsAt.below hb4 ((hRO.at (C := 0) (Nat.zero_le _) (Nat.zero_le _)).keeps (keeps_frm _ _))
  have hg4 := hg3.below hb4
  have hlG : w.heap.size < W2.heap.size := bG2.lt
  have hlW : w.heap.size + 1 + 1 < W2.heap.size := bW2.lt
  have hz23 := hb3.size
  have hz34 := hb4.size
  clear hW4 bG2 bO2 bW2 hg3
  go_cut [20] (fun s wx => s = .pointer (some ⟨w3.heap.size, 0, none⟩) ∧ (∃ BR : List RowD, BR.length = rows.length ∧ RowsAt wx (.slice ra rows.length rc) BR) ∧ IntsAt wx (.slice ga gain.length gc) gain ∧ Blk wx w3.heap.size [.int .i64 n, .slice ra rows.length rc, .slice ga gain.length gc] 29 ∧
      Blk wx w.heap.size [.int .i64 g0, .int .i64 g1, .int .i64 g2, .int .i64 g3, .int .i64 g4, .int .i64 g5, .int .i64 g6, .int .i64 g7] 23 ∧ Blk wx (w.heap.size + 1 + 1) [.int .i64 raw.vars, .slice rra raw.rows.length rrc, .slice rga raw.gain.length rgc] 29 ∧ Below w.heap.size w wx)
  case first =>
    by_cases h0 : rows.length = 0
    · have h0d : decide (0 < rows.length) = false := decide_eq_false (by omega)
      go_wp2_with fail
      go_meet
      exact ⟨rfl, ⟨rows, rfl, hr4⟩, hg4, bB, bG4, bW4, hbw4⟩
    · have h0d : decide (0 < rows.length) = true := decide_eq_true (by omega)
      obtain ⟨L0, hOR, hLl, hLs⟩ := hRO
      obtain ⟨RB, rfl⟩ : ∃ g, ra = some ⟨g, 0, none⟩ := by
        rcases hOR.form with ⟨e1, e2⟩ | ⟨g, c, cur, e1, -⟩
        · rw [e2] at hLl; simp at hLl; omega
        · exact ⟨g, (Value.slice.inj e1).1⟩
      have hOR4 := hOR.later' hb4
      have HLl := hide hLl
      have HLs := hide hLs
      have hpk1 := pickF_nonneg wh (n := (rows.length : Int)) (by omega)
      have hpk2 := pickF_lt wh (n := (rows.length : Int)) (by omega)
      have HPK := hide (fun W => pickl_any wh (rows.length : Int) W kw.1 kw.2 (by omega) (by omega))
      obtain ⟨pk, hpk⟩ : ∃ pk : Nat, pickF wh (rows.length : Int) = (pk : Int) := ⟨(pickF wh (rows.length : Int)).toNat, by omega⟩
      rw [hpk] at HPK hpk1 hpk2
      have hpkn : pk < rows.length := by omega
      have hpkd : decide (pk < rows.length) = true := by simpa using hpkn
      have b1 := bB.cell 1 rfl
      have o0 := bO4.cell 0 rfl
      have o1 := bO4.cell 1 rfl
      have o2 := bO4.cell 2 rfl
      have o3 := bO4.cell 3 rfl
      have o4 := bO4.cell 4 rfl
      have o5 := bO4.cell 5 rfl
      have hBAle : BA ≤ W4.heap.size := by
        rcases hOR4.form with ⟨e1, -⟩ | ⟨g', c', cur, e1, e2, e3, -⟩
        · cases e1
        · have := (Array.getElem?_eq_some_iff.1 e3).1
          omega
      have hwsz := hbw2.size
      clear hpk hLl hLs hOR hpk1 hpk2 h0
      go_wp2_with fail
      rw [h0d]
      clear h0d
      refine wp_region_inv [some 61, some 62, some 63, some 64, some 65, some 66, some 67, some 68, some 69, none] (fun L vs W => match vs with | [x0, x1, x2, x3, x4, x5, x6, x7, x8, x9] => (L 9 = false → Below W4.heap.size W4 W) ∧ (L 0 = true → x0 = .pointer (some ⟨w3.heap.size, 1, none⟩)) ∧ (L 1 = true → x1 = .slice (some ⟨RB, 0, none⟩) rows.length rc) ∧ (L 2 = true → x2 = .int .i64 wh) ∧ (L 3 = true → x3 = .pointer (some ⟨w3.heap.size, 1, none⟩)) ∧ (L 4 = true → x4 = .slice (some ⟨RB, 0, none⟩) rows.length rc) ∧ (L 5 = true → L 4 = true ∧ x5 = .int .i64 rows.length) ∧ (L 6 = true → L 4 = true ∧ x6 = .int .i64 pk) ∧ (L 7 = true → x7 = rowV (cutR odd) (.slice oa om oc)) ∧ (L 8 = true → (L 1 = true ∧ L 4 = true ∧ L 6 = true) ∧ x8 = .pointer (some ⟨RB, pk * 6, none⟩)) ∧ (L 9 = true → (L 1 = true ∧ L 4 = true ∧ L 6 = true ∧ L 7 = true) ∧ OwnR W BA 26 6 (.slice (some ⟨RB, 0, none⟩) rows.length rc) (L0.set pk (rowCells (cutR odd) (.slice oa om oc))) ∧ EffE BA 26 W4 W) | _ => False) [_, _, _, _, _, _, _, _, _, undef] (by kernel_rfl) (by kernel_rfl) rfl (by simp only [puts, Act.put, List.setIfInBounds_toArray, List.set_cons_zero, List.set_cons_succ] <;> rfl) ?_ ?_ ?_
      · exact ⟨fun _ => (Below.refl _ _).drew, (fun h => by cases h), (fun h => by cases h), (fun h => by cases h), (fun h => by cases h), (fun h => by cases h), (fun h => by cases h), (fun h => by cases h), (fun h => by cases h), (fun h => by cases h), (fun h => by cases h)⟩
      · refine ⟨?_, ?_, ?_, ?_, ?_, ?_, ?_, ?_, ?_, ?_, trivial⟩
        · intro L vs W hlen hL hD hI K hK
          obtain ⟨x0, x1, x2, x3, x4, x5, x6, x7, x8, x9, rfl⟩ := len10 hlen
          have hG := hI.1
          replace hI := hI.2
          have f0 := hide hI.1
          replace hI := hI.2
          have f1 := hide hI.1
          replace hI := hI.2
          have f2 := hide hI.1
          replace hI := hI.2
          have f3 := hide hI.1
          replace hI := hI.2
          have f4 := hide hI.1
          replace hI := hI.2
          have f5 := hide hI.1
          replace hI := hI.2
          have f6 := hide hI.1
          replace hI := hI.2
          have f7 := hide hI.1
          replace hI := hI.2
          have f8 := hide hI.1
          replace hI := hI.2
          have f9 := hide hI
          clear hI
          try simp only [puts, Act.put, List.setIfInBounds_toArray, List.set_cons_zero, List.set_cons_succ]
          try go_simp
          exact hK.out _ _ _ (by simp only [puts, Act.put, List.setIfInBounds_toArray, List.set_cons_zero, List.set_cons_succ] <;> rfl) ⟨hG, (fun _ => rfl), (fun h => f1.out h), (fun h => f2.out h), (fun h => f3.out h), (fun h => f4.out h), (fun h => f5.out h), (fun h => f6.out h), (fun h => f7.out h), (fun h => f8.out h), (fun h => f9.out h)⟩
        · intro L vs W hlen hL hD hI K hK
          obtain ⟨x0, x1, x2, x3, x4, x5, x6, x7, x8, x9, rfl⟩ := len10 hlen
          have hG := hI.1
          replace hI := hI.2
          have f0 := hide hI.1
          replace hI := hI.2
          have f1 := hide hI.1
          replace hI := hI.2
          have f2 := hide hI.1
          replace hI := hI.2
          have f3 := hide hI.1
          replace hI := hI.2
          have f4 := hide hI.1
          replace hI := hI.2
          have f5 := hide hI.1
          replace hI := hI.2
          have f6 := hide hI.1
          replace hI := hI.2
          have f7 := hide hI.1
          replace hI := hI.2
          have f8 := hide hI.1
          replace hI := hI.2
          have f9 := hide hI
          clear hI
          obtain rfl := f0.out (hD.on 0 (by kernel_rfl))
          try simp only [puts, Act.put, List.setIfInBounds_toArray, List.set_cons_zero, List.set_cons_succ]
          have h9 : L 9 = false := Bool.eq_false_iff.2 (fun h => absurd ((f9.out h).1.1.symm.trans hL) (by decide))
          have k1 := keep (hG h9) b1
          go_simp
          exact hK.out _ _ _ (by simp only [puts, Act.put, List.setIfInBounds_toArray, List.set_cons_zero, List.set_cons_succ] <;> rfl) ⟨hG, (fun h => f0.out h), (fun _ => rfl), (fun h => f2.out h), (fun h => f3.out h), (fun h => f4.out h), (fun h => f5.out h), (fun h => f6.out h), (fun h => f7.out h), (fun h => (fun h => ⟨⟨rfl, h.1.2⟩, h.2⟩) (f8.out h)), (fun h => (fun h => absurd (h.1.1.symm.trans hL) (by decide)) (f9.out h))⟩
        · intro L vs W hlen hL hD hI K hK
          obtain ⟨x0, x1, x2, x3, x4, x5, x6, x7, x8, x9, rfl⟩ := len10 hlen
          have hG := hI.1
          replace hI := hI.2
          have f0 := hide hI.1
          replace hI := hI.2
          have f1 := hide hI.1
          replace hI := hI.2
          have f2 := hide hI.1
          replace hI := hI.2
          have f3 := hide hI.1
          replace hI := hI.2
          have f4 := hide hI.1
          replace hI := hI.2
          have f5 := hide hI.1
          replace hI := hI.2
          have f6 := hide hI.1
          replace hI := hI.2
          have f7 := hide hI.1
          replace hI := hI.2
          have f8 := hide hI.1
          replace hI := hI.2
          have f9 := hide hI
          clear hI
          try simp only [puts, Act.put, List.setIfInBounds_toArray, List.set_cons_zero, List.set_cons_succ]
          try go_simp
          exact hK.out _ _ _ (by simp only [puts, Act.put, List.setIfInBounds_toArray, List.set_cons_zero, List.set_cons_succ] <;> rfl) ⟨hG, (fun h => f0.out h), (fun h => f1.out h), (fun _ => rfl), (fun h => f3.out h), (fun h => f4.out h), (fun h => f5.out h), (fun h => f6.out h), (fun h => f7.out h), (fun h => f8.out h), (fun h => f9.out h)⟩
        · intro L vs W hlen hL hD hI K hK
          obtain ⟨x0, x1, x2, x3, x4, x5, x6, x7, x8, x9, rfl⟩ := len10 hlen
          have hG := hI.1
          replace hI := hI.2
          have f0 := hide hI.1
          replace hI := hI.2
          have f1 := hide hI.1
          replace hI := hI.2
          have f2 := hide hI.1
          replace hI := hI.2
          have f3 := hide hI.1
          replace hI := hI.2
          have f4 := hide hI.1
          replace hI := hI.2
          have f5 := hide hI.1
          replace hI := hI.2
          have f6 := hide hI.1
          replace hI := hI.2
          have f7 := hide hI.1
          replace hI := hI.2
          have f8 := hide hI.1
          replace hI := hI.2
          have f9 := hide hI
          clear hI
          try simp only [puts, Act.put, List.setIfInBounds_toArray, List.set_cons_zero, List.set_cons_succ]
          try go_simp
          exact hK.out _ _ _ (by simp only [puts, Act.put, List.setIfInBounds_toArray, List.set_cons_zero, List.set_cons_succ] <;> rfl) ⟨hG, (fun h => f0.out h), (fun h => f1.out h), (fun h => f2.out h), (fun _ => rfl), (fun h => f4.out h), (fun h => f5.out h), (fun h => f6.out h), (fun h => f7.out h), (fun h => f8.out h), (fun h => f9.out h)⟩
        · intro L vs W hlen hL hD hI K hK
          obtain ⟨x0, x1, x2, x3, x4, x5, x6, x7, x8, x9, rfl⟩ := len10 hlen
          have hG := hI.1
          replace hI := hI.2
          have f0 := hide hI.1
          replace hI := hI.2
          have f1 := hide hI.1
          replace hI := hI.2
          have f2 := hide hI.1
          replace hI := hI.2
          have f3 := hide hI.1
          replace hI := hI.2
          have f4 := hide hI.1
          replace hI := hI.2
          have f5 := hide hI.1
          replace hI := hI.2
          have f6 := hide hI.1
          replace hI := hI.2
          have f7 := hide hI.1
          replace hI := hI.2
          have f8 := hide hI.1
          replace hI := hI.2
          have f9 := hide hI
          clear hI
          obtain rfl := f3.out (hD.on 3 (by kernel_rfl))
          try simp only [puts, Act.put, List.setIfInBounds_toArray, List.set_cons_zero, List.set_cons_succ]
          have h9 : L 9 = false := Bool.eq_false_iff.2 (fun h => absurd ((f9.out h).1.2.1.symm.trans hL) (by decide))
          have k1 := keep (hG h9) b1
          go_simp
          exact hK.out _ _ _ (by simp only [puts, Act.put, List.setIfInBounds_toArray, List.set_cons_zero, List.set_cons_succ] <;> rfl) ⟨hG, (fun h => f0.out h), (fun h => f1.out h), (fun h => f2.out h), (fun h => f3.out h), (fun _ => rfl), (fun h => (fun h => ⟨rfl, h.2⟩) (f5.out h)), (fun h => (fun h => ⟨rfl, h.2⟩) (f6.out h)), (fun h => f7.out h), (fun h => (fun h => ⟨⟨h.1.1, rfl, h.1.2.2⟩, h.2⟩) (f8.out h)), (fun h => (fun h => absurd (h.1.2.1.symm.trans hL) (by decide)) (f9.out h))⟩
        · intro L vs W hlen hL hD hI K hK
          obtain ⟨x0, x1, x2, x3, x4, x5, x6, x7, x8, x9, rfl⟩ := len10 hlen
          have hG := hI.1
          replace hI := hI.2
          have f0 := hide hI.1
          replace hI := hI.2
          have f1 := hide hI.1
          replace hI := hI.2
          have f2 := hide hI.1
          replace hI := hI.2
          have f3 := hide hI.1
          replace hI := hI.2
          have f4 := hide hI.1
          replace hI := hI.2
          have f5 := hide hI.1
          replace hI := hI.2
          have f6 := hide hI.1
          replace hI := hI.2
          have f7 := hide hI.1
          replace hI := hI.2
          have f8 := hide hI.1
          replace hI := hI.2
          have f9 := hide hI
          clear hI
          obtain rfl := f4.out (hD.on 4 (by kernel_rfl))
          try simp only [puts, Act.put, List.setIfInBounds_toArray, List.set_cons_zero, List.set_cons_succ]
          try go_simp
          exact hK.out _ _ _ (by simp only [puts, Act.put, List.setIfInBounds_toArray, List.set_cons_zero, List.set_cons_succ] <;> rfl) ⟨hG, (fun h => f0.out h), (fun h => f1.out h), (fun h => f2.out h), (fun h => f3.out h), (fun h => f4.out h), (fun _ => ⟨hD.on 4 (by kernel_rfl), rfl⟩), (fun h => f6.out h), (fun h => f7.out h), (fun h => f8.out h), (fun h => f9.out h)⟩
        · intro L vs W hlen hL hD hI K hK
          obtain ⟨x0, x1, x2, x3, x4, x5, x6, x7, x8, x9, rfl⟩ := len10 hlen
          have hG := hI.1
          replace hI := hI.2
          have f0 := hide hI.1
          replace hI := hI.2
          have f1 := hide hI.1
          replace hI := hI.2
          have f2 := hide hI.1
          replace hI := hI.2
          have f3 := hide hI.1
          replace hI := hI.2
          have f4 := hide hI.1
          replace hI := hI.2
          have f5 := hide hI.1
          replace hI := hI.2
          have f6 := hide hI.1
          replace hI := hI.2
          have f7 := hide hI.1
          replace hI := hI.2
          have f8 := hide hI.1
          replace hI := hI.2
          have f9 := hide hI
          clear hI
          obtain rfl := f2.out (hD.on 2 (by kernel_rfl))
          have g5 := f5.out (hD.on 5 (by kernel_rfl))
          try simp only [puts, Act.put, List.setIfInBounds_toArray, List.set_cons_zero, List.set_cons_succ]
          obtain rfl := g5.2
          go_simp
          refine (HPK.out _).mono ?_
          rintro e W' ⟨rfl, rfl⟩
          try go_simp
          exact hK.out _ _ _ (by simp only [puts, Act.put, List.setIfInBounds_toArray, List.set_cons_zero, List.set_cons_succ] <;> rfl) ⟨hG, (fun h => f0.out h), (fun h => f1.out h), (fun h => f2.out h), (fun h => f3.out h), (fun h => f4.out h), (fun h => f5.out h), (fun _ => ⟨g5.1, rfl⟩), (fun h => f7.out h), (fun h => (fun h => ⟨⟨h.1.1, h.1.2.1, rfl⟩, h.2⟩) (f8.out h)), (fun h => (fun h => absurd (h.1.2.2.1.symm.trans hL) (by decide)) (f9.out h))⟩
        · intro L vs W hlen hL hD hI K hK
          obtain ⟨x0, x1, x2, x3, x4, x5, x6, x7, x8, x9, rfl⟩ := len10 hlen
          have hG := hI.1
          replace hI := hI.2
          have f0 := hide hI.1
          replace hI := hI.2
          have f1 := hide hI.1
          replace hI := hI.2
          have f2 := hide hI.1
          replace hI := hI.2
          have f3 := hide hI.1
          replace hI := hI.2
          have f4 := hide hI.1
          replace hI := hI.2
          have f5 := hide hI.1
          replace hI := hI.2
          have f6 := hide hI.1
          replace hI := hI.2
          have f7 := hide hI.1
          replace hI := hI.2
          have f8 := hide hI.1
          replace hI := hI.2
          have f9 := hide hI
          clear hI
          try simp only [puts, Act.put, List.setIfInBounds_toArray, List.set_cons_zero, List.set_cons_succ]
          have h9 : L 9 = false := Bool.eq_false_iff.2 (fun h => absurd ((f9.out h).1.2.2.2.symm.trans hL) (by decide))
          have k0 := keep (hG h9) o0
          have k1 := keep (hG h9) o1
          have k2 := keep (hG h9) o2
          have k3 := keep (hG h9) o3
          have k4 := keep (hG h9) o4
          have k5 := keep (hG h9) o5
          go_simp
          exact hK.out _ _ _ (by simp only [puts, Act.put, List.setIfInBounds_toArray, List.set_cons_zero, List.set_cons_succ] <;> rfl) ⟨hG, (fun h => f0.out h), (fun h => f1.out h), (fun h => f2.out h), (fun h => f3.out h), (fun h => f4.out h), (fun h => f5.out h), (fun h => f6.out h), (fun _ => rfl), (fun h => f8.out h), (fun h => (fun h => absurd (h.1.2.2.2.symm.trans hL) (by decide)) (f9.out h))⟩
        · intro L vs W hlen hL hD hI K hK
          obtain ⟨x0, x1, x2, x3, x4, x5, x6, x7, x8, x9, rfl⟩ := len10 hlen
          have hG := hI.1
          replace hI := hI.2
          have f0 := hide hI.1
          replace hI := hI.2
          have f1 := hide hI.1
          replace hI := hI.2
          have f2 := hide hI.1
          replace hI := hI.2
          have f3 := hide hI.1
          replace hI := hI.2
          have f4 := hide hI.1
          replace hI := hI.2
          have f5 := hide hI.1
          replace hI := hI.2
          have f6 := hide hI.1
          replace hI := hI.2
          have f7 := hide hI.1
          replace hI := hI.2
          have f8 := hide hI.1
          replace hI := hI.2
          have f9 := hide hI
          clear hI
          obtain rfl := f1.out (hD.on 1 (by kernel_rfl))
          have g6 := f6.out (hD.on 6 (by kernel_rfl))
          try simp only [puts, Act.put, List.setIfInBounds_toArray, List.set_cons_zero, List.set_cons_succ]
          obtain rfl := g6.2
          go_simp
          exact hK.out _ _ _ (by simp only [puts, Act.put, List.setIfInBounds_toArray, List.set_cons_zero, List.set_cons_succ] <;> rfl) ⟨hG, (fun h => f0.out h), (fun h => f1.out h), (fun h => f2.out h), (fun h => f3.out h), (fun h => f4.out h), (fun h => f5.out h), (fun h => f6.out h), (fun h => f7.out h), (fun _ => ⟨⟨hD.on 1 (by kernel_rfl), g6.1, hD.on 6 (by kernel_rfl)⟩, rfl⟩), (fun h => f9.out h)⟩
        · intro L vs W hlen hL hD hI K hK
          obtain ⟨x0, x1, x2, x3, x4, x5, x6, x7, x8, x9, rfl⟩ := len10 hlen
          have hG := hI.1
          replace hI := hI.2
          have f0 := hide hI.1
          replace hI := hI.2
          have f1 := hide hI.1
          replace hI := hI.2
          have f2 := hide hI.1
          replace hI := hI.2
          have f3 := hide hI.1
          replace hI := hI.2
          have f4 := hide hI.1
          replace hI := hI.2
          have f5 := hide hI.1
          replace hI := hI.2
          have f6 := hide hI.1
          replace hI := hI.2
          have f7 := hide hI.1
          replace hI := hI.2
          have f8 := hide hI.1
          replace hI := hI.2
          have f9 := hide hI
          clear hI
          obtain rfl := f7.out (hD.on 7 (by kernel_rfl))
          have g8 := f8.out (hD.on 8 (by kernel_rfl))
          try simp only [puts, Act.put, List.setIfInBounds_toArray, List.set_cons_zero, List.set_cons_succ]
          obtain rfl := g8.2
          have hbW := hG hL
          have hOW := hOR4.later' hbW
          have hP6 := hOW.put6 HLl.out pk hpkn (.int .i64 odd.kind) (.int .i64 odd.a) (.int .i64 odd.b) (.int .i64 odd.at_) (.slice oa om oc) (.int .i64 odd.most)
          have z := hOW.frozenAt6
          have zc := hOW.cellAt6 HLl.out hpkn
          obtain ⟨y0, y1, y2, y3, y4, y5, zc0, zc1, zc2, zc3, zc4, zc5⟩ := zc
          have z0 := z (pk * 6)
          have z1 := z (pk * 6 + 1)
          have z2 := z (pk * 6 + 2)
          have z3 := z (pk * 6 + 3)
          have z4 := z (pk * 6 + 4)
          have z5 := z (pk * 6 + 5)
          go_simp
          have hb : True := trivial
          exact hK.out _ undef _ (by simp only [puts, Act.put, List.setIfInBounds_toArray, List.set_cons_zero, List.set_cons_succ] <;> rfl) ⟨(fun h => by cases h), (fun h => f0.out h), (fun h => (fun h => h) (f1.out h)), (fun h => f2.out h), (fun h => f3.out h), (fun h => (fun h => h) (f4.out h)), (fun h => f5.out h), (fun h => f6.out h), (fun h => f7.out h), (fun h => f8.out h), (fun _ => ⟨⟨g8.1.1, g8.1.2.1, g8.1.2.2, hD.on 7 (by kernel_rfl)⟩, hP6.1, (EffE.of_below hbW).trans hP6.2⟩)⟩
      intro L vs W hlen hall hI
      obtain ⟨x0, x1, x2, x3, x4, x5, x6, x7, x8, x9, rfl⟩ := len10 hlen
      have hG := hI.1
      replace hI := hI.2
      have f0 := hide hI.1
      replace hI := hI.2
      have f1 := hide hI.1
      replace hI := hI.2
      have f2 := hide hI.1
      replace hI := hI.2
      have f3 := hide hI.1
      replace hI := hI.2
      have f4 := hide hI.1
      replace hI := hI.2
      have f5 := hide hI.1
      replace hI := hI.2
      have f6 := hide hI.1
      replace hI := hI.2
      have f7 := hide hI.1
      replace hI := hI.2
      have f8 := hide hI.1
      replace hI := hI.2
      have f9 := hide hI
      clear hI
      obtain rfl := f0.out (hall 0 (by decide))
      obtain rfl := f1.out (hall 1 (by decide))
      obtain rfl := f2.out (hall 2 (by decide))
      obtain rfl := f3.out (hall 3 (by decide))
      obtain rfl := f4.out (hall 4 (by decide))
      have g5 := f5.out (hall 5 (by decide))
      have g6 := f6.out (hall 6 (by decide))
      obtain rfl := f7.out (hall 7 (by decide))
      have g8 := f8.out (hall 8 (by decide))
      have g9 := f9.out (hall 9 (by decide))
      have hal := hide hall
      clear hall f0 f1 f2 f3 f4 f5 f6 f7 f8 f9
      try simp only [puts, Act.put, List.setIfInBounds_toArray, List.set_cons_zero, List.set_cons_succ]
      obtain ⟨-, hO9, hE9⟩ := g9
      obtain ⟨W9, hW9⟩ : ∃ Z, Z = W := ⟨_, rfl⟩
      subst hW9
      go_wp2_with fail
      go_meet
      have hb9 : Below w.heap.size w W9 := hbw4.trans ((hE9.below hBAle).mono (by omega))
      refine ⟨rfl, ⟨rows.set pk (cutR odd), by simp, OwnR.rows hO9 (by simp [HLl.out]) (fun i hi => ?_)⟩, (((hgY.keeps (keeps_frmY_below hb4)).keeps (keeps_frmY_eff hE9 (by decide))).keeps (keeps_frmY _ _ _)).keeps (keeps_frm _ _), hE9.blk bB (by decide), hE9.blk bG4 (by decide), hE9.blk bW4 (by decide), hb9⟩
      rw [List.length_set] at hi
      by_cases hik : i = pk
      · subst hik
        refine ⟨.slice oa om oc, by rw [getD_set_eq' _ (by rw [HLl.out]; exact hi), getD_set_eq' _ hi], ?_⟩
        rw [getD_set_eq' _ hi]
        show IntsAt W9 _ (odd.coef.take 13)
        rw [HOT.out]
        exact IntsAt.below hb9 HOI.out
      · obtain ⟨cv, e, hc⟩ := HLs.out i hi
        refine ⟨cv, by rw [getD_set_ne' _ hik, getD_set_ne' _ hik, e], ?_⟩
        rw [getD_set_ne' _ hik]
        exact (((hc.keeps (keeps_frmY_below hb4)).keeps (keeps_frmY_eff hE9 (by decide))).keeps (keeps_frmY _ _ _)).keeps (keeps_frm _ _)
  case rest =>
    obtain ⟨rfl, ⟨BR, hBRl, hBR⟩, hgc, bBc, bGc, bWc, hbc⟩ := hcut
    obtain ⟨WC, rfl⟩ : ∃ W : World, W = wc := ⟨_, rfl⟩
    have HBL := hide hBRl
    have HFL : Hid ((fewF raw).rows.length ≤ 20) := hide (by
      show (cutUp raw.rows (min raw.rows.length 20)).length ≤ 20
      rw [cutUp_len (by omega)]; omega)
    rw [← hBRl] at bBc hBR
    clear hBRl hRO hgY hb3 hb4 hb24 bB bG4 bO4 bW4 hr4 hg4 hbw4 hbw2
    have c0 := bGc.cell 0 rfl
    have c1 := bGc.cell 1 rfl
    have c2 := bGc.cell 2 rfl
    have c3 := bGc.cell 3 rfl
    have c4 := bGc.cell 4 rfl
    have c5 := bGc.cell 5 rfl
    have c6 := bGc.cell 6 rfl
    have c7 := bGc.cell 7 rfl
    have b0 := bBc.cell 0 rfl
    have b1 := bBc.cell 1 rfl
    have b2 := bBc.cell 2 rfl
    have r0 := bWc.cell 0 rfl
    have r1 := bWc.cell 1 rfl
    have r2 := bWc.cell 2 rfl
    go_wp2_with fail
    refine wp_region_inv [some 70, some 71, some 72, some 73, some 74, some 75, some 76, some 77, some 78, some 79] (fun L vs W => match vs with | [x0, x1, x2, x3, x4, x5, x6, x7, x8, x9] => (Below WC.heap.size WC W) ∧ (L 0 = true → x0 = .int .i64 v) ∧ (L 1 = true → x1 = .slice xa x.length xn) ∧ (L 2 = true → x2 = .agg #[.int .i64 g0, .int .i64 g1, .int .i64 g2, .int .i64 g3, .int .i64 g4, .int .i64 g5, .int .i64 g6, .int .i64 g7]) ∧ (L 3 = true → ∃ mv nv, x3 = .agg #[.int .i64 n, mv, nv] ∧ RowsAt W mv rows ∧ IntsAt W nv gain) ∧ (L 4 = true → x4 = .agg #[.int .i64 n, .slice ra BR.length rc, .slice ga gain.length gc]) ∧ (L 5 = true → x5 = .agg #[.int .i64 raw.vars, .slice rra raw.rows.length rrc, .slice rga raw.gain.length rgc]) ∧ (L 6 = true → ∃ mv nv, x6 = .agg #[.int .i64 raw.vars, mv, nv] ∧ RowsAt W mv (fewF raw).rows ∧ IntsAt W nv (fewF raw).gain) ∧ (L 7 = true → ∃ (bb : Nat) (m1 n1 m2 n2 : Value), WC.heap.size ≤ bb ∧ x7 = .slice (some ⟨bb, 0, none⟩) 3 3 ∧ Blk W bb [.int .i64 n, m1, n1, .int .i64 n, .slice ra BR.length rc, .slice ga gain.length gc, .int .i64 raw.vars, m2, n2] 29 ∧ RowsAt W m1 rows ∧ IntsAt W n1 gain ∧ RowsAt W m2 (fewF raw).rows ∧ IntsAt W n2 (fewF raw).gain) ∧ (L 8 = true → x8 = .int .i64 3) ∧ (L 9 = true → x9 = .int .i64 0) | _ => False) [_, _, _, _, _, _, _, _, _, _] (by kernel_rfl) (by kernel_rfl) rfl (by simp only [puts, Act.put, List.setIfInBounds_toArray, List.set_cons_zero, List.set_cons_succ] <;> rfl) ?_ ?_ ?_
    · exact ⟨(Below.refl _ _).drew, (fun h => by cases h), (fun h => by cases h), (fun h => by cases h), (fun h => by cases h), (fun h => by cases h), (fun h => by cases h), (fun h => by cases h), (fun h => by cases h), (fun h => by cases h), (fun h => by cases h)⟩
    · refine ⟨?_, ?_, ?_, ?_, ?_, ?_, ?_, ?_, ?_, ?_, trivial⟩
      · intro L vs W hlen hL hD hI K hK
        obtain ⟨x0, x1, x2, x3, x4, x5, x6, x7, x8, x9, rfl⟩ := len10 hlen
        have hG := hI.1
        replace hI := hI.2
        have f0 := hide hI.1
        replace hI := hI.2
        have f1 := hide hI.1
        replace hI := hI.2
        have f2 := hide hI.1
        replace hI := hI.2
        have f3 := hide hI.1
        replace hI := hI.2
        have f4 := hide hI.1
        replace hI := hI.2
        have f5 := hide hI.1
        replace hI := hI.2
        have f6 := hide hI.1
        replace hI := hI.2
        have f7 := hide hI.1
        replace hI := hI.2
        have f8 := hide hI.1
        replace hI := hI.2
        have f9 := hide hI
        clear hI
        have c0 := keep hG c0
        have c1 := keep hG c1
        have c2 := keep hG c2
        have c3 := keep hG c3
        have c4 := keep hG c4
        have c5 := keep hG c5
        have c6 := keep hG c6
        have c7 := keep hG c7
        have b0 := keep hG b0
        have b1 := keep hG b1
        have b2 := keep hG b2
        have r0 := keep hG r0
        have r1 := keep hG r1
        have r2 := keep hG r2
        try simp only [puts, Act.put, List.setIfInBounds_toArray, List.set_cons_zero, List.set_cons_succ]
        try go_simp
        exact hK.out _ _ _ (by simp only [puts, Act.put, List.setIfInBounds_toArray, List.set_cons_zero, List.set_cons_succ] <;> rfl) ⟨hG, (fun _ => rfl), (fun h => f1.out h), (fun h => f2.out h), (fun h => f3.out h), (fun h => f4.out h), (fun h => f5.out h), (fun h => f6.out h), (fun h => f7.out h), (fun h => f8.out h), (fun h => f9.out h)⟩
      · intro L vs W hlen hL hD hI K hK
        obtain ⟨x0, x1, x2, x3, x4, x5, x6, x7, x8, x9, rfl⟩ := len10 hlen
        have hG := hI.1
        replace hI := hI.2
        have f0 := hide hI.1
        replace hI := hI.2
        have f1 := hide hI.1
        replace hI := hI.2
        have f2 := hide hI.1
        replace hI := hI.2
        have f3 := hide hI.1
        replace hI := hI.2
        have f4 := hide hI.1
        replace hI := hI.2
        have f5 := hide hI.1
        replace hI := hI.2
        have f6 := hide hI.1
        replace hI := hI.2
        have f7 := hide hI.1
        replace hI := hI.2
        have f8 := hide hI.1
        replace hI := hI.2
        have f9 := hide hI
        clear hI
        have c0 := keep hG c0
        have c1 := keep hG c1
        have c2 := keep hG c2
        have c3 := keep hG c3
        have c4 := keep hG c4
        have c5 := keep hG c5
        have c6 := keep hG c6
        have c7 := keep hG c7
        have b0 := keep hG b0
        have b1 := keep hG b1
        have b2 := keep hG b2
        have r0 := keep hG r0
        have r1 := keep hG r1
        have r2 := keep hG r2
        try simp only [puts, Act.put, List.setIfInBounds_toArray, List.set_cons_zero, List.set_cons_succ]
        try go_simp
        exact hK.out _ _ _ (by simp only [puts, Act.put, List.setIfInBounds_toArray, List.set_cons_zero, List.set_cons_succ] <;> rfl) ⟨hG, (fun h => f0.out h), (fun _ => rfl), (fun h => f2.out h), (fun h => f3.out h), (fun h => f4.out h), (fun h => f5.out h), (fun h => f6.out h), (fun h => f7.out h), (fun h => f8.out h), (fun h => f9.out h)⟩
      · intro L vs W hlen hL hD hI K hK
        obtain ⟨x0, x1, x2, x3, x4, x5, x6, x7, x8, x9, rfl⟩ := len10 hlen
        have hG := hI.1
        replace hI := hI.2
        have f0 := hide hI.1
        replace hI := hI.2
        have f1 := hide hI.1
        replace hI := hI.2
        have f2 := hide hI.1
        replace hI := hI.2
        have f3 := hide hI.1
        replace hI := hI.2
        have f4 := hide hI.1
        replace hI := hI.2
        have f5 := hide hI.1
        replace hI := hI.2
        have f6 := hide hI.1
        replace hI := hI.2
        have f7 := hide hI.1
        replace hI := hI.2
        have f8 := hide hI.1
        replace hI := hI.2
        have f9 := hide hI
        clear hI
        have c0 := keep hG c0
        have c1 := keep hG c1
        have c2 := keep hG c2
        have c3 := keep hG c3
        have c4 := keep hG c4
        have c5 := keep hG c5
        have c6 := keep hG c6
        have c7 := keep hG c7
        have b0 := keep hG b0
        have b1 := keep hG b1
        have b2 := keep hG b2
        have r0 := keep hG r0
        have r1 := keep hG r1
        have r2 := keep hG r2
        try simp only [puts, Act.put, List.setIfInBounds_toArray, List.set_cons_zero, List.set_cons_succ]
        try go_simp
        exact hK.out _ _ _ (by simp only [puts, Act.put, List.setIfInBounds_toArray, List.set_cons_zero, List.set_cons_succ] <;> rfl) ⟨hG, (fun h => f0.out h), (fun h => f1.out h), (fun _ => rfl), (fun h => f3.out h), (fun h => f4.out h), (fun h => f5.out h), (fun h => f6.out h), (fun h => f7.out h), (fun h => f8.out h), (fun h => f9.out h)⟩
      · intro L vs W hlen hL hD hI K hK
        obtain ⟨x0, x1, x2, x3, x4, x5, x6, x7, x8, x9, rfl⟩ := len10 hlen
        have hG := hI.1
        replace hI := hI.2
        have f0 := hide hI.1
        replace hI := hI.2
        have f1 := hide hI.1
        replace hI := hI.2
        have f2 := hide hI.1
        replace hI := hI.2
        have f3 := hide hI.1
        replace hI := hI.2
        have f4 := hide hI.1
        replace hI := hI.2
        have f5 := hide hI.1
        replace hI := hI.2
        have f6 := hide hI.1
        replace hI := hI.2
        have f7 := hide hI.1
        replace hI := hI.2
        have f8 := hide hI.1
        replace hI := hI.2
        have f9 := hide hI
        clear hI
        have c0 := keep hG c0
        have c1 := keep hG c1
        have c2 := keep hG c2
        have c3 := keep hG c3
        have c4 := keep hG c4
        have c5 := keep hG c5
        have c6 := keep hG c6
        have c7 := keep hG c7
        have b0 := keep hG b0
        have b1 := keep hG b1
        have b2 := keep hG b2
        have r0 := keep hG r0
        have r1 := keep hG r1
        have r2 := keep hG r2
        obtain rfl := f0.out (hD.on 0 (by kernel_rfl))
        obtain rfl := f1.out (hD.on 1 (by kernel_rfl))
        obtain rfl := f2.out (hD.on 2 (by kernel_rfl))
        try simp only [puts, Act.put, List.setIfInBounds_toArray, List.set_cons_zero, List.set_cons_succ]
        try go_simp
        refine (HM.out _ (below2 hbc hG)).mono ?_
        rintro e W' ⟨pv, rfl, ⟨mv, nv, rfl, hmr, hmn⟩, hb⟩
        try go_simp
        exact hK.out _ _ _ (by simp only [puts, Act.put, List.setIfInBounds_toArray, List.set_cons_zero, List.set_cons_succ] <;> rfl) ⟨below2 hG hb, (fun h => f0.out h), (fun h => f1.out h), (fun h => f2.out h), (fun _ => ⟨mv, nv, rfl, hmr.keeps (keeps_frm _ _), hmn.keeps (keeps_frm _ _)⟩), (fun h => f4.out h), (fun h => f5.out h), (fun h => (fun h => let ⟨mv, nv, a, b, c⟩ := h; ⟨mv, nv, a, b.below hb, c.below hb⟩) (f6.out h)), (fun h => (fun h => let ⟨bb, m1, n1, m2, n2, a1, a2, a3, a4, a5, a6, a7⟩ := h; ⟨bb, m1, n1, m2, n2, a1, a2, a3.later hb, a4.below hb, a5.below hb, a6.below hb, a7.below hb⟩) (f7.out h)), (fun h => f8.out h), (fun h => f9.out h)⟩
      · intro L vs W hlen hL hD hI K hK
        obtain ⟨x0, x1, x2, x3, x4, x5, x6, x7, x8, x9, rfl⟩ := len10 hlen
        have hG := hI.1
        replace hI := hI.2
        have f0 := hide hI.1
        replace hI := hI.2
        have f1 := hide hI.1
        replace hI := hI.2
        have f2 := hide hI.1
        replace hI := hI.2
        have f3 := hide hI.1
        replace hI := hI.2
        have f4 := hide hI.1
        replace hI := hI.2
        have f5 := hide hI.1
        replace hI := hI.2
        have f6 := hide hI.1
        replace hI := hI.2
        have f7 := hide hI.1
        replace hI := hI.2
        have f8 := hide hI.1
        replace hI := hI.2
        have f9 := hide hI
        clear hI
        have c0 := keep hG c0
        have c1 := keep hG c1
        have c2 := keep hG c2
        have c3 := keep hG c3
        have c4 := keep hG c4
        have c5 := keep hG c5
        have c6 := keep hG c6
        have c7 := keep hG c7
        have b0 := keep hG b0
        have b1 := keep hG b1
        have b2 := keep hG b2
        have r0 := keep hG r0
        have r1 := keep hG r1
        have r2 := keep hG r2
        try simp only [puts, Act.put, List.setIfInBounds_toArray, List.set_cons_zero, List.set_cons_succ]
        try go_simp
        exact hK.out _ _ _ (by simp only [puts, Act.put, List.setIfInBounds_toArray, List.set_cons_zero, List.set_cons_succ] <;> rfl) ⟨hG, (fun h => f0.out h), (fun h => f1.out h), (fun h => f2.out h), (fun h => f3.out h), (fun _ => rfl), (fun h => f5.out h), (fun h => f6.out h), (fun h => f7.out h), (fun h => f8.out h), (fun h => f9.out h)⟩
      · intro L vs W hlen hL hD hI K hK
        obtain ⟨x0, x1, x2, x3, x4, x5, x6, x7, x8, x9, rfl⟩ := len10 hlen
        have hG := hI.1
        replace hI := hI.2
        have f0 := hide hI.1
        replace hI := hI.2
        have f1 := hide hI.1
        replace hI := hI.2
        have f2 := hide hI.1
        replace hI := hI.2
        have f3 := hide hI.1
        replace hI := hI.2
        have f4 := hide hI.1
        replace hI := hI.2
        have f5 := hide hI.1
        replace hI := hI.2
        have f6 := hide hI.1
        replace hI := hI.2
        have f7 := hide hI.1
        replace hI := hI.2
        have f8 := hide hI.1
        replace hI := hI.2
        have f9 := hide hI
        clear hI
        have c0 := keep hG c0
        have c1 := keep hG c1
        have c2 := keep hG c2
        have c3 := keep hG c3
        have c4 := keep hG c4
        have c5 := keep hG c5
        have c6 := keep hG c6
        have c7 := keep hG c7
        have b0 := keep hG b0
        have b1 := keep hG b1
        have b2 := keep hG b2
        have r0 := keep hG r0
        have r1 := keep hG r1
        have r2 := keep hG r2
        try simp only [puts, Act.put, List.setIfInBounds_toArray, List.set_cons_zero, List.set_cons_succ]
        try go_simp
        exact hK.out _ _ _ (by simp only [puts, Act.put, List.setIfInBounds_toArray, List.set_cons_zero, List.set_cons_succ] <;> rfl) ⟨hG, (fun h => f0.out h), (fun h => f1.out h), (fun h => f2.out h), (fun h => f3.out h), (fun h => f4.out h), (fun _ => rfl), (fun h => f6.out h), (fun h => f7.out h), (fun h => f8.out h), (fun h => f9.out h)⟩
      · intro L vs W hlen hL hD hI K hK
        obtain ⟨x0, x1, x2, x3, x4, x5, x6, x7, x8, x9, rfl⟩ := len10 hlen
        have hG := hI.1
        replace hI := hI.2
        have f0 := hide hI.1
        replace hI := hI.2
        have f1 := hide hI.1
        replace hI := hI.2
        have f2 := hide hI.1
        replace hI := hI.2
        have f3 := hide hI.1
        replace hI := hI.2
        have f4 := hide hI.1
        replace hI := hI.2
        have f5 := hide hI.1
        replace hI := hI.2
        have f6 := hide hI.1
        replace hI := hI.2
        have f7 := hide hI.1
        replace hI := hI.2
        have f8 := hide hI.1
        replace hI := hI.2
        have f9 := hide hI
        clear hI
        have c0 := keep hG c0
        have c1 := keep hG c1
        have c2 := keep hG c2
        have c3 := keep hG c3
        have c4 := keep hG c4
        have c5 := keep hG c5
        have c6 := keep hG c6
        have c7 := keep hG c7
        have b0 := keep hG b0
        have b1 := keep hG b1
        have b2 := keep hG b2
        have r0 := keep hG r0
        have r1 := keep hG r1
        have r2 := keep hG r2
        obtain rfl := f5.out (hD.on 5 (by kernel_rfl))
        try simp only [puts, Act.put, List.setIfInBounds_toArray, List.set_cons_zero, List.set_cons_succ]
        try go_simp
        refine (HFW.out _ (below2 hbc hG)).mono ?_
        rintro e W' ⟨mv, nv, rfl, hmr, hmn, hb⟩
        try go_simp
        exact hK.out _ _ _ (by simp only [puts, Act.put, List.setIfInBounds_toArray, List.set_cons_zero, List.set_cons_succ] <;> rfl) ⟨below2 hG hb, (fun h => f0.out h), (fun h => f1.out h), (fun h => f2.out h), (fun h => (fun h => let ⟨mv, nv, a, b, c⟩ := h; ⟨mv, nv, a, b.below hb, c.below hb⟩) (f3.out h)), (fun h => f4.out h), (fun h => f5.out h), (fun _ => ⟨mv, nv, rfl, hmr, hmn⟩), (fun h => (fun h => let ⟨bb, m1, n1, m2, n2, a1, a2, a3, a4, a5, a6, a7⟩ := h; ⟨bb, m1, n1, m2, n2, a1, a2, a3.later hb, a4.below hb, a5.below hb, a6.below hb, a7.below hb⟩) (f7.out h)), (fun h => f8.out h), (fun h => f9.out h)⟩
      · intro L vs W hlen hL hD hI K hK
        obtain ⟨x0, x1, x2, x3, x4, x5, x6, x7, x8, x9, rfl⟩ := len10 hlen
        have hG := hI.1
        replace hI := hI.2
        have f0 := hide hI.1
        replace hI := hI.2
        have f1 := hide hI.1
        replace hI := hI.2
        have f2 := hide hI.1
        replace hI := hI.2
        have f3 := hide hI.1
        replace hI := hI.2
        have f4 := hide hI.1
        replace hI := hI.2
        have f5 := hide hI.1
        replace hI := hI.2
        have f6 := hide hI.1
        replace hI := hI.2
        have f7 := hide hI.1
        replace hI := hI.2
        have f8 := hide hI.1
        replace hI := hI.2
        have f9 := hide hI
        clear hI
        have c0 := keep hG c0
        have c1 := keep hG c1
        have c2 := keep hG c2
        have c3 := keep hG c3
        have c4 := keep hG c4
        have c5 := keep hG c5
        have c6 := keep hG c6
        have c7 := keep hG c7
        have b0 := keep hG b0
        have b1 := keep hG b1
        have b2 := keep hG b2
        have r0 := keep hG r0
        have r1 := keep hG r1
        have r2 := keep hG r2
        have g3 := f3.out (hD.on 3 (by kernel_rfl))
        obtain rfl := f4.out (hD.on 4 (by kernel_rfl))
        have g6 := f6.out (hD.on 6 (by kernel_rfl))
        try simp only [puts, Act.put, List.setIfInBounds_toArray, List.set_cons_zero, List.set_cons_succ]
        obtain ⟨m1, n1, rfl, hm1, hn1⟩ := g3
        obtain ⟨m2, n2, rfl, hm2, hn2⟩ := g6
        obtain ⟨ma, mc, rfl, -, -, -⟩ := id hm1
        obtain ⟨na, nc, rfl, -, -, -⟩ := id hn1
        obtain ⟨ma', mc', rfl, -, -, -⟩ := id hm2
        obtain ⟨na', nc', rfl, -, -, -⟩ := id hn2
        go_simp
        generalize hW' : World.alloc W _ = W'
        have hb : Below W.heap.size W W' := by rw [← hW']; exact bal W _
        exact hK.out _ _ _ (by simp only [puts, Act.put, List.setIfInBounds_toArray, List.set_cons_zero, List.set_cons_succ] <;> rfl) ⟨below2 hG hb, (fun h => f0.out h), (fun h => f1.out h), (fun h => f2.out h), (fun h => (fun h => let ⟨mv, nv, a, b, c⟩ := h; ⟨mv, nv, a, b.below hb, c.below hb⟩) (f3.out h)), (fun h => f4.out h), (fun h => f5.out h), (fun h => (fun h => let ⟨mv, nv, a, b, c⟩ := h; ⟨mv, nv, a, b.below hb, c.below hb⟩) (f6.out h)), (fun _ => ⟨W.heap.size, _, _, _, _, hG.size, rfl, by rw [← hW']; exact Blk.newA W _ rfl, hm1.below hb, hn1.below hb, hm2.below hb, hn2.below hb⟩), (fun h => f8.out h), (fun h => f9.out h)⟩
      · intro L vs W hlen hL hD hI K hK
        obtain ⟨x0, x1, x2, x3, x4, x5, x6, x7, x8, x9, rfl⟩ := len10 hlen
        have hG := hI.1
        replace hI := hI.2
        have f0 := hide hI.1
        replace hI := hI.2
        have f1 := hide hI.1
        replace hI := hI.2
        have f2 := hide hI.1
        replace hI := hI.2
        have f3 := hide hI.1
        replace hI := hI.2
        have f4 := hide hI.1
        replace hI := hI.2
        have f5 := hide hI.1
        replace hI := hI.2
        have f6 := hide hI.1
        replace hI := hI.2
        have f7 := hide hI.1
        replace hI := hI.2
        have f8 := hide hI.1
        replace hI := hI.2
        have f9 := hide hI
        clear hI
        have c0 := keep hG c0
        have c1 := keep hG c1
        have c2 := keep hG c2
        have c3 := keep hG c3
        have c4 := keep hG c4
        have c5 := keep hG c5
        have c6 := keep hG c6
        have c7 := keep hG c7
        have b0 := keep hG b0
        have b1 := keep hG b1
        have b2 := keep hG b2
        have r0 := keep hG r0
        have r1 := keep hG r1
        have r2 := keep hG r2
        have g7 := f7.out (hD.on 7 (by kernel_rfl))
        try simp only [puts, Act.put, List.setIfInBounds_toArray, List.set_cons_zero, List.set_cons_succ]
        obtain ⟨bb, m1, n1, m2, n2, hbb, rfl, -⟩ := g7
        go_simp
        exact hK.out _ _ _ (by simp only [puts, Act.put, List.setIfInBounds_toArray, List.set_cons_zero, List.set_cons_succ] <;> rfl) ⟨hG, (fun h => f0.out h), (fun h => f1.out h), (fun h => f2.out h), (fun h => f3.out h), (fun h => f4.out h), (fun h => f5.out h), (fun h => f6.out h), (fun h => f7.out h), (fun _ => rfl), (fun h => f9.out h)⟩
      · intro L vs W hlen hL hD hI K hK
        obtain ⟨x0, x1, x2, x3, x4, x5, x6, x7, x8, x9, rfl⟩ := len10 hlen
        have hG := hI.1
        replace hI := hI.2
        have f0 := hide hI.1
        replace hI := hI.2
        have f1 := hide hI.1
        replace hI := hI.2
        have f2 := hide hI.1
        replace hI := hI.2
        have f3 := hide hI.1
        replace hI := hI.2
        have f4 := hide hI.1
        replace hI := hI.2
        have f5 := hide hI.1
        replace hI := hI.2
        have f6 := hide hI.1
        replace hI := hI.2
        have f7 := hide hI.1
        replace hI := hI.2
        have f8 := hide hI.1
        replace hI := hI.2
        have f9 := hide hI
        clear hI
        have c0 := keep hG c0
        have c1 := keep hG c1
        have c2 := keep hG c2
        have c3 := keep hG c3
        have c4 := keep hG c4
        have c5 := keep hG c5
        have c6 := keep hG c6
        have c7 := keep hG c7
        have b0 := keep hG b0
        have b1 := keep hG b1
        have b2 := keep hG b2
        have r0 := keep hG r0
        have r1 := keep hG r1
        have r2 := keep hG r2
        try simp only [puts, Act.put, List.setIfInBounds_toArray, List.set_cons_zero, List.set_cons_succ]
        try go_simp
        exact hK.out _ _ _ (by simp only [puts, Act.put, List.setIfInBounds_toArray, List.set_cons_zero, List.set_cons_succ] <;> rfl) ⟨hG, (fun h => f0.out h), (fun h => f1.out h), (fun h => f2.out h), (fun h => f3.out h), (fun h => f4.out h), (fun h => f5.out h), (fun h => f6.out h), (fun h => f7.out h), (fun h => f8.out h), (fun _ => rfl)⟩
    intro L vs W hlen hall hI
    obtain ⟨x0, x1, x2, x3, x4, x5, x6, x7, x8, x9, rfl⟩ := len10 hlen
    have hG := hI.1
    replace hI := hI.2
    have f0 := hide hI.1
    replace hI := hI.2
    have f1 := hide hI.1
    replace hI := hI.2
    have f2 := hide hI.1
    replace hI := hI.2
    have f3 := hide hI.1
    replace hI := hI.2
    have f4 := hide hI.1
    replace hI := hI.2
    have f5 := hide hI.1
    replace hI := hI.2
    have f6 := hide hI.1
    replace hI := hI.2
    have f7 := hide hI.1
    replace hI := hI.2
    have f8 := hide hI.1
    replace hI := hI.2
    have f9 := hide hI
    clear hI
    obtain rfl := f0.out (hall 0 (by decide))
    obtain rfl := f1.out (hall 1 (by decide))
    obtain rfl := f2.out (hall 2 (by decide))
    have g3 := f3.out (hall 3 (by decide))
    obtain rfl := f4.out (hall 4 (by decide))
    obtain rfl := f5.out (hall 5 (by decide))
    have g6 := f6.out (hall 6 (by decide))
    have g7 := f7.out (hall 7 (by decide))
    obtain rfl := f8.out (hall 8 (by decide))
    obtain rfl := f9.out (hall 9 (by decide))
    have hal := hide hall
    clear hall f0 f1 f2 f3 f4 f5 f6 f7 f8 f9
    try simp only [puts, Act.put, List.setIfInBounds_toArray, List.set_cons_zero, List.set_cons_succ]
    obtain ⟨LB, m1, n1, m2, n2, hLB, rfl, bL, hm1, hn1, hm2, hn2⟩ := g7
    obtain ⟨W5, hW5⟩ : ∃ Z, Z = W := ⟨_, rfl⟩
    subst hW5
    have hbw5 := below2 hbc hG
    have hBR5 := hBR.below hG
    have hgc5 := hgc.below hG
    clear g3 g6 hal c0 c1 c2 c3 c4 c5 c6 c7 b0 b1 b2 r0 r1 r2
    have HPS : Hid (∀ i, i < 3 → ∃ (q : ProgD) (rv gv : Value), W5.cell? ⟨LB, i * 3, none⟩ = some (.int .i64 q.vars) ∧ W5.cell? ⟨LB, i * 3 + 1, none⟩ = some rv ∧ W5.cell? ⟨LB, i * 3 + 2, none⟩ = some gv ∧ RowsAt W5 rv q.rows ∧ IntsAt W5 gv q.gain ∧ q.rows.length ≤ 20) := hide (fun i hi => by
      match i, hi with
      | 0, _ => exact ⟨⟨n, rows, gain⟩, m1, n1, bL.cell 0 rfl, bL.cell 1 rfl, bL.cell 2 rfl, hm1, hn1, by show rows.length ≤ 20; omega⟩
      | 1, _ => exact ⟨⟨n, BR, gain⟩, _, _, bL.cell 3 rfl, bL.cell 4 rfl, bL.cell 5 rfl, hBR5, hgc5, by show BR.length ≤ 20; have := HBL.out; omega⟩
      | 2, _ => exact ⟨fewF raw, m2, n2, bL.cell 6 rfl, bL.cell 7 rfl, bL.cell 8 rfl, hm2, hn2, HFL.out⟩)
    clear hBR hgc bBc bGc bWc hm1 hn1 hm2 hn2 hBR5 hgc5 bL hbc hG hlG hlW hz23 hz34 hBA hom1 hom2 hoim hx1 hx2 hoc1 hoc2 HM HMO HFW HOT HOI HV HFL HBL kw hn8 hr8 hLB hv
    go_wp2_with fail
    go_loopw [79] (fun i wr => ∃ k : Nat, k ≤ 3 ∧ i = .int .i64 k ∧ Below W5.heap.size W5 wr) (fun i _ => 3 - (intOf i).toNat)
    case atStart => exact ⟨0, by omega, rfl, Below.refl _ _⟩
    case round =>
      obtain ⟨k, hk, rfl, hbr⟩ := hrel
      by_cases hlt : k < 3
      · have hk3 : decide ((k : Int) < 3) = true := by simp; omega
        obtain ⟨q, rv, gv, k0, k1, k2, hqr, hqg, hq20⟩ := HPS.out k hlt
        replace k0 := keep hbr k0
        replace k1 := keep hbr k1
        replace k2 := keep hbr k2
        have HS1 := hide (fun (W : World) (hb : Below W5.heap.size W5 W) => solve_any q rv gv W (hqr.below hb) (hqg.below hb))
        have HS2 := hide (fun (W : World) (hb : Below W5.heap.size W5 W) => solver_any q rv gv W (hqr.below hb) (hqg.below hb))
        have HA1 := hide (fun (W : World) (hb : Below W5.heap.size W5 W) => all_any q rv gv W (hqr.below hb) (hqg.below hb))
        have HA2 := hide (fun (W : World) (hb : Below W5.heap.size W5 W) => allr_any q rv gv W (hqr.below hb) (hqg.below hb))
        have HV1 := hide (fun (W : World) (hb : Below W5.heap.size W5 W) => valid_any q rv gv W (hqr.below hb) (hqg.below hb))
        have HV2 := hide (fun (W : World) (hb : Below W5.heap.size W5 W) => validr_any q rv gv W (hqr.below hb) (hqg.below hb))
        have HW1 := hide (fun (lv : Value) (l : List Int) (W : World) (hb : Below W5.heap.size W5 W) (h : IntsAt W lv l) => without_any q rv gv lv l W (hqr.below hb) (hqg.below hb) h (by omega))
        have HW2 := hide (fun (lv : Value) (l : List Int) (W : World) (hb : Below W5.heap.size W5 W) (h : IntsAt W lv l) => withoutr_any q rv gv lv l W (hqr.below hb) (hqg.below hb) h)
        generalize solveF q = SF at HS1 HS2
        generalize errF q = ER at HS1 HS2 HA1 HA2
        generalize allF q = AF at HA1 HA2
        generalize validB q = VB at HV1 HV2
        generalize withoutF q = WF at HW1 HW2
        generalize errW q = EW at HW1 HW2
        obtain ⟨sf, ss, sg, sp⟩ := SF
        obtain ⟨pa, pc, rfl, hpl1, hpl2, hpc⟩ := id hqr
        obtain ⟨qa, qc, rfl, -, -, -⟩ := id hqg
        have hqm : (q.rows.length : Int) ≤ 9223372036854775807 := by omega
        have HPC := hide hpc
        clear hpc
        go_wp2_with fail
        generalize hXX : World.alloc wr _ = V1
        have hv1 : Below wr.heap.size wr V1 := by rw [← hXX]; exact bal wr _
        have bP : Blk V1 wr.heap.size [.int .i64 q.vars, .slice pa q.rows.length pc, .slice qa q.gain.length qc] 29 := by rw [← hXX]; exact Blk.newA wr _ rfl
        have h51 := below2 hbr hv1
        generalize wr.heap.size = PB at *
        clear hXX k0 k1 k2 hbr hv1
        refine (HS1.out _ h51).mono ?_
        rintro e z1 ⟨sv1, u1, rfl, ⟨⟨pv1, rfl, hp1⟩, rfl⟩, hz1⟩
        have P1 : StepsIn z1.cell? pv1 sp := hp1.keeps (keeps_frm _ _)
        obtain ⟨ya, yc, rfl, -, -, -⟩ := id P1
        have bP1 := bP.later hz1
        have h5z1 := below2 h51 hz1
        have p0 := bP1.cell 0 rfl
        have p1 := bP1.cell 1 rfl
        have p2 := bP1.cell 2 rfl
        have lP := bP1.lt
        clear hp1 bP
        go_wp2_with fail
        generalize hXX : World.alloc z1 _ = V2
        have hv2 : Below z1.heap.size z1 V2 := by rw [← hXX]; exact bal z1 _
        have bS : Blk V2 z1.heap.size [.bool sf, .int .i64 ss, .int .i64 sg, .slice ya sp.length yc] 37 := by rw [← hXX]; exact Blk.newA z1 _ rfl
        have h5v2 := below2 h5z1 hv2
        have hv2' := hv2
        generalize hSB : z1.heap.size = SB at bS ⊢
        clear hXX p0 p1 p2 lP hSB
        refine (HS2.out _ h5v2).mono ?_
        rintro e z2 ⟨sv2, u2, rfl, ⟨⟨pv2, rfl, hp2⟩, rfl⟩, hz2⟩
        have P2 : StepsIn z2.cell? pv2 sp := hp2.keeps (keeps_frm _ _)
        obtain ⟨xa', xc', rfl, -, -, -⟩ := id P2
        have bP2 := bP1.later (below2 hv2' hz2)
        have bS2 := bS.later hz2
        have h5z2 := below2 h5v2 hz2
        have P1' := P1.keeps (keeps_of_below (below2 hv2' hz2))
        have p0 := bP2.cell 0 rfl
        have p1 := bP2.cell 1 rfl
        have p2 := bP2.cell 2 rfl
        have lP := bP2.lt
        clear hp2 bP1 bS P1
        go_wp2_with fail
        generalize hXX : World.alloc z2 _ = V3
        have hv3 : Below z2.heap.size z2 V3 := by rw [← hXX]; exact bal z2 _
        have bT : Blk V3 z2.heap.size [.bool sf, .int .i64 ss, .int .i64 sg, .slice xa' sp.length xc'] 37 := by rw [← hXX]; exact Blk.newA z2 _ rfl
        have h5v3 := below2 h5z2 hv3
        have bP3 := bP2.later hv3
        have bS3 := bS2.later hv3
        have P13 := P1'.keeps (keeps_of_below hv3)
        have P23 := P2.keeps (keeps_of_below hv3)
        generalize z2.heap.size = TB at *
        clear hXX p0 p1 p2 lP P1' P2 bP2 bS2
        refine (HA1.out _ h5v3).mono ?_
        rintro e z3 ⟨av1, u3, rfl, ⟨ha1, rfl⟩, hz3⟩
        have A1 : IntsAt z3 av1 AF := ha1.keeps (keeps_frm _ _)
        obtain ⟨wa, wc', rfl, -, -, -⟩ := id A1
        have bP4 := bP3.later hz3
        have p0 := bP4.cell 0 rfl
        have p1 := bP4.cell 1 rfl
        have p2 := bP4.cell 2 rfl
        clear ha1
        go_wp2_with fail
        refine (HA2.out _ (below2 h5v3 hz3)).mono ?_
        rintro e z4 ⟨av2, u4, rfl, ⟨ha2, rfl⟩, hz4⟩
        have A2 : IntsAt z4 av2 AF := ha2.keeps (keeps_frm _ _)
        obtain ⟨wa2, wc2, rfl, -, -, -⟩ := id A2
        have hz34 := below2 hz3 hz4
        have h5z4 := below2 h5v3 hz34
        have bP5 := bP3.later hz34
        have bS5 := bS3.later hz34
        have bT5 := bT.later hz34
        have P15 := P13.keeps (keeps_of_below hz34)
        have P25 := P23.keeps (keeps_of_below hz34)
        have A15 := A1.below hz4
        have HSP := hide (fun (W : World) (hb : Below z4.heap.size z4 W) => sameproof_any sp _ _ W (P15.keeps (keeps_of_below hb)) (P25.keeps (keeps_of_below hb)))
        have HIN := hide (fun (W : World) (hb : Below z4.heap.size z4 W) => ints_any AF AF _ _ W (A15.below hb) (A2.below hb))
        have HAF : Hid (intsB AF AF = true) := hide (by simp [intsB])
        rw [HAF.out] at HIN
        clear p0 p1 p2 ha2 HAF bP3 bP4 bS3 bT A1 A2 P13 P23 P15 P25 A15 hz3 hz4 hz34 h5v3
        have p0 := bwc (bP5.cell 0 rfl)
        have p1 := bwc (bP5.cell 1 rfl)
        have p2 := bwc (bP5.cell 2 rfl)
        have s0 := bwc (bS5.cell 0 rfl)
        have s1 := bwc (bS5.cell 1 rfl)
        have s2 := bwc (bS5.cell 2 rfl)
        have s3 := bwc (bS5.cell 3 rfl)
        have t0 := bwc (bT5.cell 0 rfl)
        have t1 := bwc (bT5.cell 1 rfl)
        have t2 := bwc (bT5.cell 2 rfl)
        have t3 := bwc (bT5.cell 3 rfl)
        go_wp2_with fail
        refine wp_region_bw (by kernel_rfl) (by kernel_rfl) ?_
        repeat (go_big_quiet_step (with_reducible first | exact quiet (HSP.out _ (Bw.h _)) | exact quiet (HIN.out _ (Bw.h _)) | exact quiet (HV1.out _ (below2 h5z4 (Bw.h _))) | exact quiet (HV2.out _ (below2 h5z4 (Bw.h _)))))
        refine wpQuiet_nil ?_
        rintro _ ⟨i0, rfl⟩
        have h5I := below2 h5z4 i0.h
        have bP6 := bP5.later i0.h
        generalize i0.W = WI at *
        clear p0 p1 p2 s0 s1 s2 s3 t0 t1 t2 t3 HSP HIN HV1 HV2 HS1 HS2 HA1 HA2 bP5 bS5 bT5 h5z4 h5z2 h5v2 h5z1 h51 hz1 hz2 hv2 hv2' hv3
        go_wp2_with fail
        refine (pickl_any set 256 _ ks.1 ks.2 (by decide) (by decide)).mono ?_
        rintro e z6 ⟨rfl, rfl⟩
        have hpk1 := pickF_nonneg set (n := 256) (by decide)
        have hpk2 := pickF_lt set (n := 256) (by decide)
        generalize pickF set 256 = pk at *
        go_wp2_with fail
        generalize hXX : World.alloc z6 _ = V4
        have hv4 : Below z6.heap.size z6 V4 := by rw [← hXX]; exact bal z6 _
        have bZ : Blk V4 z6.heap.size [.int .i64 set, .int .i64 pk] 3 := by rw [← hXX]; exact Blk.newA z6 _ rfl
        have h54 := below2 h5I hv4
        have bP7 := bP6.later hv4
        generalize z6.heap.size = ZB at *
        clear hXX bP6 h5I hv4 hpk1 hpk2
        refine match_loop2 q pa qa pc qc PB ZB set pk V4 bP7 bZ (hqr.below h54) (hqg.below h54) _ _ _ _ _ _ _ _ _ _ _ _ _ _ _ _ _ _ _ _ _ _ _ _ _ _ _ _ _ _ _ _ _ _ _ _ _ _ _ _ _ _ _ _ _ _ _ _ _ _ _ _ _ _ _ _ _ _ _ _ _ _ _ _ _ _ _ _ _ _ _ _ _ _ _ _ _ _ _ _ _ _ _ _ _ _ _ _ _ _ _ _ _ _ _ _ _ _ _ _ _ _ _ _ _ _ _ _ _ _ _ _ _ _ _ _ _ _ _ _ _ _ _ _ _ _ _ _ _ _ _ _ _ _ _ _ _ _ _ _ _ _ _ _ _ _ _ _ _ _ _ _ _ _ _ _ _ _ _ _ _ _ _ _ _ _ _ _ _ _ _ _ _ _ _ _ _ _ _ _ _ _ _ _ _ _ _ _ _ _ _ _ _ _ _ _ _ _ _ _ _ _ _ _ _ _ _ _ _ _ _ _ _ _ _ _ _ _ _ _ _ _ _ _ _ _ _ _ _ _ _ _ _ _ _ _ _ _ _ _ _ _ _ _ _ _ _ _ _ _ _ _ _ _ _ _ _ _ _ _ _ ?_
        intro t18 t32 t33 t159 t160 t161 t162 t163 t164 t165 t166 t167 t168 t169 t170 t171 t172 t173 t174 t175 t176 t177 t178 t179 t180 t181 t182 t183 t184 t185 t186 t187 t188 t189 t190 t191 t192 t193 t194 t195 t196 t197 t198 t199 t200 t201 t202 t203 t204 t205 t206 t207 t208 t209 t210 W6 hbj
        go_wp2_with fail
        clear bZ
        go_loopw [34, 35] (fun s i wr => ∃ (r : Nat) (so : List Int), r ≤ q.rows.length ∧ i = .int .i64 r ∧ so.length ≤ r ∧ OwnI wr V4.heap.size s so ∧ Below V4.heap.size V4 wr) (fun _ i _ => q.rows.length - (intOf i).toNat)
        case atStart => exact ⟨0, [], by omega, rfl, by simp, OwnI.nil _ _, hbj⟩
        case round =>
          obtain ⟨r, so, hrr, rfl, hso, hown, hbr'⟩ := hrel
          have bPr := bP7.later hbr'
          have p1 := bPr.cell 1 rfl
          have hzr := hbr'.size
          by_cases hlr : r < q.rows.length
          · have hrl : decide (r < q.rows.length) = true := by simpa using hlr
            go_wp2_with fail
            refine (pickl_any bits 1048576 _ kb.1 kb.2 (by decide) (by decide)).mono ?_
            rintro e z7 ⟨rfl, hz7⟩
            obtain rfl := hz7.symm
            obtain ⟨pb, hpb⟩ : ∃ pb : Nat, pickF bits 1048576 = (pb : Int) := ⟨(pickF bits 1048576).toNat, by have := pickF_nonneg bits (n := 1048576) (by decide); omega⟩
            rw [hpb]
            clear hpb
            by_cases hbit : pb / 2 ^ r % 2 = 1
            · have ht1 : (((pb : Int) / 2 ^ r).tmod 2 == 1) = true := by rw [shr_cast, tmod_cast, hbit]; rfl
              clear hbit
              go_wp2_with (at_builtin; refine app_int rfl _ _ rfl V4.heap.size _ _ rfl hown r rfl (by omega) hzr ?_; intro v' w3' hown3 hb3' hz3')
              go_roundw
              case rel => exact ⟨r + 1, _, by omega, by go_num, by simp; omega, hown3, hbr'.trans hb3'⟩
              case measure => simp [intOf]; omega
            · have ht1 : (((pb : Int) / 2 ^ r).tmod 2 == 1) = false := by
                rw [shr_cast, tmod_cast, beq_eq_false_iff_ne]; omega
              clear hbit
              go_wp2_with fail
              go_roundw
              case rel => exact ⟨r + 1, so, by omega, by go_num, by omega, hown, hbr'⟩
              case measure => simp [intOf]; omega
          · obtain rfl : r = q.rows.length := by omega
            have hsi := hown.ints
            obtain ⟨soa, soc, rfl, -, -, -⟩ := id hsi
            have h5r := below2 h54 hbr'
            have hl10 := HL10.out
            obtain ⟨hl11, hl12, hl13⟩ := HL11.out
            have HLW : Hid (IntsAt wr (.slice la lm lc) (rl.take lm)) := hide (IntsAt.below (below2 hbw5 h5r) HLI.out)
            go_wp2_with fail
            generalize hXX : World.alloc wr _ = V5
            have hv5 : Below wr.heap.size wr V5 := by rw [← hXX]; exact bal wr _
            have bY : Blk V5 wr.heap.size [.slice la lm lc, .slice soa so.length soc] 24 := by rw [← hXX]; exact Blk.newA wr _ rfl
            have h55 := below2 h5r hv5
            have bPs := bPr.later hv5
            have hs5 := hsi.below hv5
            have hl5 := IntsAt.below hv5 HLW.out
            generalize wr.heap.size = YB at *
            have HYT : Hid (∀ i, i < 2 → ∃ (lv : Value) (l' : List Int), V5.cell? ⟨YB, i, none⟩ = some lv ∧ IntsAt V5 lv l') := hide (fun i hi => by
              match i, hi with
              | 0, _ => exact ⟨_, _, bY.cell 0 rfl, hl5⟩
              | 1, _ => exact ⟨_, _, bY.cell 1 rfl, hs5⟩)
            clear hXX bY hl5 hs5 hl10 hl11 hl12 hl13 HLW hv5 h5r hown hsi hbj hbr' bP7 h54 p1 bPr hzr
            go_loopw [236] (fun i wr => ∃ j : Nat, j ≤ 2 ∧ i = .int .i64 j ∧ Below V5.heap.size V5 wr) (fun i _ => 2 - (intOf i).toNat)
            case atStart => exact ⟨0, by omega, rfl, Below.refl _ _⟩
            case round =>
              obtain ⟨j, hj, rfl, hbj⟩ := hrel
              by_cases hlj : j < 2
              · have hj3 : decide ((j : Int) < 2) = true := by simp; omega
                obtain ⟨lv, l', y0, hly⟩ := HYT.out j hlj
                replace y0 := keep hbj y0
                have h5j := below2 h55 hbj
                have HX1 := hide (HW1.out lv l')
                have HX2 := hide (HW2.out lv l')
                have hly' := hly.below hbj
                generalize WF l' = wf at HX1 HX2
                generalize EW l' = ew at HX1 HX2
                obtain ⟨fv, fr, fg⟩ := wf
                have bP8 := bPs.later hbj
                have p0 := bP8.cell 0 rfl
                have p1 := bP8.cell 1 rfl
                have p2 := bP8.cell 2 rfl
                obtain ⟨lva, lvc, rfl, -, -, -⟩ := id hly'
                go_wp2_with fail
                refine (HX1.out _ h5j hly').mono ?_
                rintro e z8 ⟨pv8, u8, rfl, ⟨⟨r8, s8, rfl, hr8', hg8'⟩, rfl⟩, hz8⟩
                have R8 : RowsAt z8 r8 fr := hr8'.keeps (keeps_frm _ _)
                have S8 : IntsAt z8 s8 fg := hg8'.keeps (keeps_frm _ _)
                obtain ⟨r8a, r8c, rfl, -, -, -⟩ := id R8
                obtain ⟨s8a, s8c, rfl, -, -, -⟩ := id S8
                have bP9 := bP8.later hz8
                have lP := bP9.lt
                clear p0 p1 p2 hr8' hg8'
                have p0 := bP9.cell 0 rfl
                have p1 := bP9.cell 1 rfl
                have p2 := bP9.cell 2 rfl
                go_wp2_with fail
                generalize hXX : World.alloc z8 _ = V6
                have hv6 : Below z8.heap.size z8 V6 := by rw [← hXX]; exact bal z8 _
                have bC : Blk V6 z8.heap.size [.int .i64 fv, .slice r8a fr.length r8c, .slice s8a fg.length s8c] 29 := by rw [← hXX]; exact Blk.newA z8 _ rfl
                have hz86 := below2 hz8 hv6
                have h5v6 := below2 h5j hz86
                have R9 := R8.below hv6
                have S9 := S8.below hv6
                generalize hCB : z8.heap.size = CB at bC ⊢
                clear hXX p0 p1 p2 lP hCB hv6 R8 S8
                refine (HX2.out _ h5v6 (hly'.below hz86)).mono ?_
                rintro e z9 ⟨r9, s9, rfl, hr9, hg9, hz9⟩
                obtain ⟨r9a, r9c, rfl, -, -, -⟩ := id hr9
                obtain ⟨s9a, s9c, rfl, -, -, -⟩ := id hg9
                have bC9 := bC.later hz9
                have lC := bC9.lt
                have q0 := bC9.cell 0 rfl
                have q1 := bC9.cell 1 rfl
                have q2 := bC9.cell 2 rfl
                have HSA := hide (fun (W : World) (hb : Below z9.heap.size z9 W) => same_true ⟨fv, fr, fg⟩ _ _ _ _ W ((R9.below hz9).below hb) ((S9.below hz9).below hb) (hr9.below hb) (hg9.below hb))
                have hfin := below2 hbj (below2 hz86 hz9)
                clear R9 S9 hr9 hg9 bC hz86 hz8
                go_wp2_with fail
                refine (HSA.out _ (bal z9 _)).mono ?_
                rintro e zz ⟨rfl, hzz⟩
                have hfin2 := below2 hfin (below2 (bal z9 _) hzz)
                go_wp2_with fail
                go_roundw
                case rel => exact ⟨j + 1, by omega, by go_num, hfin2⟩
                case measure => simp [intOf]; omega
              · obtain rfl : j = 2 := by omega
                go_wp2_with fail
                go_roundw
                case rel => exact ⟨k + 1, by omega, by go_num, below2 h55 hbj⟩
                case measure => simp [intOf]; omega
      · obtain rfl : k = 3 := by omega
        go_wp2_with fail
        go_ret
        exact ⟨rfl, below2 hbw5 hbr⟩
end Go.Proofs.Ytcaklldmcbpbfaa
