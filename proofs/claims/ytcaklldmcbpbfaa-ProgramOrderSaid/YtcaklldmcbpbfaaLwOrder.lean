/- The walk of ProgramOrder. Conditions: how the arguments lie in memory; that integers are of 64 bits. -/
import Derived.Test.YtcaklldmcbpbfaaLwB
import Derived.Test.YtcaklldmcbpbfaaPmodG
import Derived.Test.YtcaklldmcbpbfaaAppR
import Derived.Deep.RegionHeld3
namespace Go.Proofs.Ytcaklldmcbpbfaa
open Go.RowKit

set_option maxRecDepth 100000 in
set_option maxHeartbeats 4000000 in
theorem order_any (v : Int) (x : List Tri) (xv : Value) (g : List Int) (turn : Int) (nm : List Int) (w : World) (hv : i64B v) (hx : TrisIn w.cell? xv x) (hx64 : ∀ t ∈ x, tri64 t) (hg : g.length = 8) (hg64 : ∀ y ∈ g, i64B y) (ht : i64B turn) (hnm : nm.length = 4) (_ : ∀ y ∈ nm, i64B y) :
    Calls Try.prog 7 #[.int .i64 v, xv, .agg (g.map (Value.int .i64)).toArray, .int .i64 turn, .agg (nm.map (Value.int .i64)).toArray] w (Ret (.bool true) w) := by
  obtain ⟨g0, g1, g2, g3, g4, g5, g6, g7, rfl⟩ : ∃ g0 g1 g2 g3 g4 g5 g6 g7, g = [g0, g1, g2, g3, g4, g5, g6, g7] := by
    match g, hg with
    | [a, b, c, d, e, f, g, h], _ => exact ⟨_, _, _, _, _, _, _, _, rfl⟩
  obtain ⟨xa, xn, rfl, hx1, hx2, -⟩ := id hx
  have HM := hide (fun W (h : Below w.heap.size w W) => made_any v x (.slice xa x.length xn) [g0, g1, g2, g3, g4, g5, g6, g7] W hv (TrisIn.keeps (keeps_of_below h) hx) hx64 hg hg64)
  clear hx hx64 hg hg64
  obtain ⟨m0, m1, m2, m3, rfl⟩ : ∃ a b c d, nm = [a, b, c, d] := by
    match nm, hnm with
    | [a, b, c, d], _ => exact ⟨_, _, _, _, rfl⟩
  clear hnm
  go_enter Try.func7, Try.ntmps7
  go_wp2_with fail
  generalize hA0 : World.alloc w _ = A0
  have bG0 : Blk A0 w.heap.size ([g0, g1, g2, g3, g4, g5, g6, g7].map (Value.int .i64)) 23 := by rw [← hA0]; exact Blk.new w _ _
  have hA1 : Below w.heap.size w A0 := by rw [← hA0]; exact bal w _
  generalize hW0 : World.alloc A0 _ = W0
  have hb0 : Below w.heap.size w W0 := by rw [← hW0]; exact below2 hA1 (bal A0 _)
  have bG := bG0.old (.cells ([m0, m1, m2, m3].map (Value.int .i64)).toArray 61)
  have bN : Blk W0 A0.heap.size ([m0, m1, m2, m3].map (Value.int .i64)) 61 := by rw [← hW0]; exact Blk.new A0 _ _
  have hz0 : A0.heap.size = w.heap.size + 1 := by rw [← hA0]; simp
  rw [hz0] at bN
  rw [show World.alloc A0 (.cells ([m0, m1, m2, m3].map (Value.int .i64)).toArray 61) = W0 from hW0] at bG
  clear hA0 hW0 hA1 bG0 hz0
  refine (sane_any _).mono ?_
  rintro e w1 ⟨rfl, hb1⟩
  have bG1 := bG.later hb1
  have c0 := bG1.cell 0 rfl
  have c1 := bG1.cell 1 rfl
  have c2 := bG1.cell 2 rfl
  have c3 := bG1.cell 3 rfl
  have c4 := bG1.cell 4 rfl
  have c5 := bG1.cell 5 rfl
  have c6 := bG1.cell 6 rfl
  have c7 := bG1.cell 7 rfl
  go_wp2_with fail
  refine (HM.out _ (below2 hb0 hb1)).mono ?_
  rintro e w2 ⟨pv, rfl, hpv, hb2⟩
  clear c0 c1 c2 c3 c4 c5 c6 c7 HM bG1 bG
  obtain ⟨n, rows, gain, hmf, hn8, hr8, hV⟩ := made_form v x [g0, g1, g2, g3, g4, g5, g6, g7]
  rw [hmf] at hpv
  clear hmf
  obtain ⟨rv, gv, rfl, hr, hgn⟩ := hpv
  have hr2 : RowsAt w2 rv rows := hr.keeps (keeps_frm _ _)
  have hg2 : IntsAt w2 gv gain := hgn.keeps (keeps_frm _ _)
  obtain ⟨ra, rc, rfl, -, hrm, -⟩ := id hr2
  obtain ⟨ga, gc, rfl, -, hgm, -⟩ := id hg2
  have hbw2 := below2 (below2 hb0 hb1) hb2
  clear hr hgn hb0
  go_wp2_with fail
  generalize hW3 : World.alloc w2 _ = W3
  have bP : Blk W3 w2.heap.size [.int .i64 n, .slice ra rows.length rc, .slice ga gain.length gc] 29 := by rw [← hW3]; exact Blk.new w2 _ _
  have hb3 : Below w2.heap.size w2 W3 := by rw [← hW3]; exact bal w2 _
  have hr3 := hr2.below hb3
  have hg3 := hg2.below hb3
  have hbw3 := below2 hbw2 hb3
  have p0 := bP.cell 0 rfl
  have p1 := bP.cell 1 rfl
  have p2 := bP.cell 2 rfl
  clear hW3 hr2 hg2 hbw2
  have hN1 : ((rows.length : Int) + 1) ≤ 9223372036854775807 := by omega
  obtain ⟨K, hK, hKl⟩ : ∃ K : Nat, pickF turn ((rows.length : Int) + 1) = K ∧ K ≤ rows.length := ⟨(pickF turn ((rows.length : Int) + 1)).toNat, by have := pickF_nonneg turn (n := (rows.length : Int) + 1) (by omega); omega, by have := pickF_lt turn (n := (rows.length : Int) + 1) (by omega); omega⟩
  refine (pickl_any turn _ _ ht.1 ht.2 (by omega) hN1).mono ?_
  rintro e w4 ⟨rfl, hw4⟩
  obtain rfl := hw4.symm
  rw [hK]
  clear hK
  obtain ⟨Lr, hLl, hL6, hLone, hLs, hLd, hLt⟩ := rows_from (RowsAt.to hr3)
  have HLl := hide hLl
  have HLs := hide hLs
  have hLd' := hLd K hKl
  have hLt' := hLt K
  have HLd := hide hLd'
  have HLt := hide hLt'
  have HL6 := hide hL6
  have HLone := hide hLone
  clear hLl hL6 hLone hLs hLd hLt hLd' hLt'
  have hrm' : (rc : Int) ≤ 9223372036854775807 := by omega
  have bN3 := bN.later (below2 (below2 hb1 hb2) hb3)
  go_wp2_with fail
  generalize hW5 : World.alloc W3 _ = W5
  have hb5 : Below W3.heap.size W3 W5 := by rw [← hW5]; exact bal W3 _
  have bQ : Blk W5 W3.heap.size [.int .i64 n, .slice ra rows.length rc, .slice ga gain.length gc] 29 := by rw [← hW5]; exact Blk.new W3 _ _
  have bP5 := bP.later hb5
  have bN5 := bN3.later hb5
  clear hW5 p0 p1 p2
  have p1 := bP5.cell 1 rfl
  have q1 := bQ.cell 1 rfl
  have f1 := bQ.frozen 1
  have hP3 : w2.heap.size < W3.heap.size := bP.lt
  have hQ5 : W3.heap.size < W5.heap.size := bQ.lt
  have hKr : (K : Int) ≤ (rows.length : Int) := by omega
  have hne : W3.heap.size ≠ w2.heap.size := by omega
  have hKc : (K : Int) ≤ (rc : Int) := by
    obtain ⟨a', n', e', hle, -⟩ := id hr3
    cases e'; omega
  have H0 := hide (lit_recs W5 26 6 (Nat.le_refl _))
  have hLdl : rows.length - K = (Lr.drop K).length := by rw [List.length_drop, HLl.out]
  have HLdl := hide hLdl
  have HLd6 : Hid (∀ r ∈ Lr.drop K, r.length = 6) := hide fun r hr => HL6.out r (List.mem_of_mem_drop hr)
  have HLdo : Hid (∀ u ∈ (Lr.drop K).flatten, u.oneCell' = true) := hide fun u hu => HLone.out u (by
    obtain ⟨r, hr, hur⟩ := List.mem_flatten.1 hu
    exact List.mem_flatten.2 ⟨r, List.mem_of_mem_drop hr, hur⟩)
  have hLl8 : Lr.length ≤ 8 := by rw [HLl.out]; exact hr8
  have hdl8 : (Lr.drop K).length ≤ 8 := by rw [List.length_drop]; omega
  have HLtl : Hid (K = (Lr.take K).length) := hide (by rw [List.length_take, HLl.out]; omega)
  have HLt6 : Hid (∀ r ∈ Lr.take K, r.length = 6) := hide fun r hr => HL6.out r (List.mem_of_mem_take hr)
  have HLto : Hid (∀ u ∈ (Lr.take K).flatten, u.oneCell' = true) := hide fun u hu => HLone.out u (by
    obtain ⟨r, hr, hur⟩ := List.mem_flatten.1 hu
    exact List.mem_flatten.2 ⟨r, List.mem_of_mem_take hr, hur⟩)
  have htl8 : (Lr.take K).length ≤ 8 := by rw [List.length_take]; omega
  have HL7 : Hid (([] ++ Lr.drop K ++ Lr.take K).length = rows.length) := hide (by rw [List.nil_append, List.length_append, List.length_drop, List.length_take, HLl.out]; omega)
  clear hLdl q1 f1
  go_region_held3 (fun w' => w'.cell? ⟨w2.heap.size, 1, none⟩ = some (.slice ra rows.length rc))
    (first | go_keep | exact keep (below2 (bal W5 _) (Below.refl _ _).drew) p1 | exact (hb6.cell (p := ⟨w2.heap.size, 1, none⟩) (Nat.lt_trans hP3 hQ5)).trans (keep (below2 (bal W5 _) (Below.refl _ _).drew) p1) | exact (hb7.cell (p := ⟨w2.heap.size, 1, none⟩) (Nat.lt_trans hP3 hQ5)).trans ((hb6.cell (p := ⟨w2.heap.size, 1, none⟩) (Nat.lt_trans hP3 hQ5)).trans (keep (below2 (bal W5 _) (Below.refl _ _).drew) p1)) | exact (World.cell?_setCell_far _ _ _ _ hne).trans ((hb7.cell (p := ⟨w2.heap.size, 1, none⟩) (Nat.lt_trans hP3 hQ5)).trans ((hb6.cell (p := ⟨w2.heap.size, 1, none⟩) (Nat.lt_trans hP3 hQ5)).trans (keep (below2 (bal W5 _) (Below.refl _ _).drew) p1))))
    (first | (refine step_app_recs infoRow rfl (by decide) Try.underlying27 rfl _ _ rfl W5.heap.size _ [] rfl (H0.out.later' (Below.refl _ _).drew) _ _ _ (Lr.drop K) HLdl.out rfl HLd6.out HLdo.out (fun b hb j u hj => keep (below2 (bal W5 _) (Below.refl _ _).drew) (keep hb5 (HLd.out.1 b hb j u hj))) HLd.out.2 (by simp only [List.length_nil, Nat.zero_add]; omega) (by simp only [List.length_nil, Nat.zero_add]; omega) (by simp) ?_; intro v6 W6 hO6 hb6) | (refine step_app_recs infoRow rfl (by decide) Try.underlying27 rfl _ _ rfl W5.heap.size v6 _ rfl hO6 ra K _ (Lr.take K) HLtl.out rfl HLt6.out HLto.out (fun b hb j u hj => have h9 := keep hb5 (HLt.out.1 b hb j u hj); (hb6.cell (lt_of_cell h9)).trans (keep (below2 (bal W5 _) (Below.refl _ _).drew) h9)) HLt.out.2 (by simp only [List.nil_append]; omega) (by simp only [List.nil_append]; omega) (by have := hb6.size; simp at this; omega) ?_; intro v7 W7 hO7 hb7; obtain ⟨a7, c7, rfl⟩ := own_form hO7 (n := rows.length) HL7.out; have bQ7 := bQ.below ((((Below.refl W5.heap.size _).trans (below2 (bal W5 _) (Below.refl _ _).drew)).trans hb6).trans hb7) hQ5; have f1 := bQ7.frozen 1; have q1 := bQ7.cell 1 rfl))
  have bQ8 := bQ7.set 1 (.slice a7 rows.length c7)
  have b58 : Below W5.heap.size W5 W7 := (((Below.refl W5.heap.size _).trans (below2 (bal W5 _) (Below.refl _ _).drew)).trans hb6).trans hb7
  have bP7 := bP5.below b58 (Nat.lt_trans hP3 hQ5)
  have bN7 := bN5.later b58
  have M7 : RowsMix W7 W5.heap.size W3.heap.size (.slice a7 rows.length c7) (turnF rows K) := by
    refine ⟨_, hO7, by rw [HL7.out, turnF_len], fun i hi => ?_⟩
    rw [turnF_len] at hi
    rw [List.nil_append, turn_get [] Lr (by rw [HLl.out]; exact hKl) (by rw [HLl.out]; exact hi), HLl.out]
    unfold turnF
    rw [turn_get row0 rows hKl hi]
    have key : ∀ j, j < rows.length → ∃ cv, Lr.getD j [] = rowCells (rows.getD j row0) cv ∧ IntsIn (rng 0 W3.heap.size W7) cv (rows.getD j row0).coef := fun j hj => by
      obtain ⟨cv, e, hc⟩ := HLs.out j hj
      exact ⟨cv, e, (ints_low (Nat.le_refl _) hc).keeps (keeps_rng_later fun k _ hk => (b58.block k (by omega)).trans (hb5.block k hk))⟩
    split
    · exact key _ (by omega)
    · exact key _ (by omega)
  have M8 := M7.setO (j := 1) (Nat.le_refl W3.heap.size) hQ5 (.slice a7 rows.length c7)
  have bP8 := bP7.other (Ne.symm hne) 1 (.slice a7 rows.length c7)
  have hneN : w.heap.size + 1 ≠ W3.heap.size := by have := bN3.lt; omega
  have hlN : w.heap.size + 1 < W5.heap.size := bN5.lt
  have bN8 := bN7.other hneN 1 (.slice a7 rows.length c7)
  have b38 : Below W3.heap.size W3 (W7.setCell ⟨W3.heap.size, 1, none⟩ (.slice a7 rows.length c7)) := ((hb5.trans (b58.mono (by omega)))).setCell (p := ⟨W3.heap.size, 1, none⟩) (Nat.le_refl _) _
  have hs78 : W5.heap.size ≤ (W7.setCell ⟨W3.heap.size, 1, none⟩ (.slice a7 rows.length c7)).heap.size := by have := b58.size; simpa [World.setCell] using this
  clear M7 bP7 bN7 bQ7 hO7 hb7 hO6 hb6 b58 bN3 bN5 bQ HLd HLt HL6 HLone HLs HLl HL7 H0 HLdl HLd6 HLdo HLtl HLt6 HLto f1 q1 p1
  generalize World.setCell W7 _ _ = W8 at M8 bP8 bN8 bQ8 b38 hs78 ⊢
  have hr8' := hr3.below b38
  have hg8' := hg3.below b38
  have hTL : (turnF rows K).length = rows.length := turnF_len _ _
  have HTL := hide hTL
  rename_i hh
  clear hTL hh hw4 hKr hKc hLl8 hdl8 htl8 hneN
  have HV := hide hV
  clear hV
  generalize (if rc = K then ra else Option.map (fun x => x.add (K * 6)) ra) = sx
  go_wp2_with fail
  go_loopw [15] (fun i wr => ∃ k : Nat, k ≤ rows.length ∧ i = .int .i64 k ∧ RowsMix wr W5.heap.size W3.heap.size (.slice a7 rows.length c7) (namedF m0 m1 m2 m3 (turnF rows K) k) ∧ Below W5.heap.size W8 wr ∧ W5.heap.size ≤ wr.heap.size) (fun i _ => rows.length - (intOf i).toNat)
  case atStart => exact ⟨0, by omega, rfl, by rw [namedF_zero]; exact M8, Below.refl _ _, hs78⟩
  case round =>
    obtain ⟨k, hk, rfl, hM, hbr, hzr⟩ := hrel
    have bQr := bQ8.below hbr hQ5
    have bNr := bN8.below hbr hlN
    have q1 := bQr.cell 1 rfl
    have n0 := bNr.cell 0 rfl
    have n1 := bNr.cell 1 rfl
    have n2 := bNr.cell 2 rfl
    have n3 := bNr.cell 3 rfl
    have hNl : (namedF m0 m1 m2 m3 (turnF rows K) k).length = rows.length := by rw [namedF_len, HTL.out]
    by_cases hlt : k < rows.length
    · obtain ⟨g7, rfl, hBg⟩ : ∃ g7, a7 = some ⟨g7, 0, none⟩ ∧ W5.heap.size ≤ g7 := by
        rcases hM.form with ⟨-, e2⟩ | ⟨g', c', e, hB⟩
        · rw [e2] at hNl; simp at hNl; omega
        · injection e with e1; exact ⟨g', e1, hB⟩
      have HNl := hide hNl
      have hM' := hM
      rw [← hNl] at hM'
      obtain ⟨z1, z2⟩ := hM'.name (by omega) (i := k) (by rw [hNl]; exact hlt) m0 m1 m2 m3
      obtain ⟨L, hO, hl, hs⟩ := id hM
      have hO' := hO
      rw [hNl] at hl
      rw [← hl] at hO'
      have hfz : ∀ j, wr.frozen? ⟨g7, j, none⟩ = false := fun j => hO'.frozen j
      have hkL : k < L.length := by omega
      obtain ⟨cv, ecv, -⟩ := hs k (by rw [hNl]; exact hlt)
      have f0 := hfz (k * 6)
      have f1 := hfz (k * 6 + 1)
      have f2 := hfz (k * 6 + 2)
      have f3 := hfz (k * 6 + 3)
      have r0 := hO'.cell k 0 hkL (by omega) (u := .int .i64 ((namedF m0 m1 m2 m3 (turnF rows K) k).getD k row0).kind) (by rw [ecv]; rfl)
      have r1 := hO'.cell k 1 hkL (by omega) (u := .int .i64 ((namedF m0 m1 m2 m3 (turnF rows K) k).getD k row0).a) (by rw [ecv]; rfl)
      have r2 := hO'.cell k 2 hkL (by omega) (u := .int .i64 ((namedF m0 m1 m2 m3 (turnF rows K) k).getD k row0).b) (by rw [ecv]; rfl)
      have r3 := hO'.cell k 3 hkL (by omega) (u := .int .i64 ((namedF m0 m1 m2 m3 (turnF rows K) k).getD k row0).at_) (by rw [ecv]; rfl)
      rw [Nat.add_zero] at r0
      have ne1 : g7 ≠ W3.heap.size := by omega
      have ne2 : g7 ≠ w.heap.size + 1 := by omega
      have hzr2 : W5.heap.size ≤ (World.setCell (World.setCell (World.setCell (World.setCell wr ⟨g7, k * 6, none⟩ (.int .i64 m0)) ⟨g7, k * 6 + 1, none⟩ (.int .i64 m1)) ⟨g7, k * 6 + 2, none⟩ (.int .i64 m2)) ⟨g7, k * 6 + 3, none⟩ (.int .i64 m3)).heap.size := by simpa [World.setCell] using hzr
      have hgn : (namedF m0 m1 m2 m3 (turnF rows K) (k + 1)) = (namedF m0 m1 m2 m3 (turnF rows K) k).set k ⟨m0, m1, m2, m3, ((namedF m0 m1 m2 m3 (turnF rows K) k).getD k row0).coef, ((namedF m0 m1 m2 m3 (turnF rows K) k).getD k row0).most⟩ := by
        have hkt : k < (turnF rows K).length := by rw [HTL.out]; exact hlt
        rw [namedF_succ _ _ _ _ hkt, namedF_get _ _ _ _ _ hkt, if_neg (by omega)]; rfl
      have hz1 : RowsMix (World.setCell (World.setCell (World.setCell (World.setCell wr ⟨g7, k * 6, none⟩ (.int .i64 m0)) ⟨g7, k * 6 + 1, none⟩ (.int .i64 m1)) ⟨g7, k * 6 + 2, none⟩ (.int .i64 m2)) ⟨g7, k * 6 + 3, none⟩ (.int .i64 m3)) W5.heap.size W3.heap.size (.slice (some ⟨g7, 0, none⟩) rows.length c7) (namedF m0 m1 m2 m3 (turnF rows K) (k + 1)) := by
        rw [hgn]; rw [hNl] at z1; exact z1
      have hz2 := z2 _ hbr
      clear hgn z1 z2 hNl hM' hO hO' hs hfz ecv hl
      go_wp2_with fail
      go_roundw
      case rel => exact ⟨k + 1, by omega, by go_num, hz1, hz2, hzr2⟩
      case measure => simp [intOf]; omega
    · obtain rfl : k = rows.length := by omega
      have bPr := bP8.below hbr (by omega)
      have hrr := hr3.below (b38.trans (hbr.mono (by omega)))
      have hgr := hg3.below (b38.trans (hbr.mono (by omega)))
      have hMr := hM.rows
      have HS := hide (named_same m0 m1 m2 m3 rows K rows.length)
      have hVq : validB ⟨n, namedF m0 m1 m2 m3 (turnF rows K) rows.length, gain⟩ = true := by rw [same_valid HS.out]; exact HV.out
      have p0 := bPr.cell 0 rfl
      have p1 := bPr.cell 1 rfl
      have p2 := bPr.cell 2 rfl
      have hbwr := below2 hbw3 (b38.trans (hbr.mono (by omega)))
      have hDp := solveF_in HV.out
      have hDq := solveF_in hVq
      have hEp := errF_in HV.out
      have hEq := errF_in hVq
      rw [same_best HS.out] at hDq
      have HDp := hide hDp
      have HDq := hide hDq
      have HEp := hide hEp
      have HEq := hide hEq
      have HVq := hide hVq
      have HAll := hide (same_all (vars := n) (g := gain) HS.out)
      have HNl := hide hNl
      clear hDp hDq hEp hEq hVq n0 n1 n2 n3
      go_wp2_with fail
      refine (solve_any ⟨n, rows, gain⟩ _ _ _ hrr hgr).mono ?_
      rintro e w9 ⟨sv, u, rfl, ⟨⟨pv, rfl, hpv⟩, rfl⟩, hb9⟩
      obtain ⟨pa, pn, rfl, -, -, -⟩ := hpv
      rw [HDp.out.1, HDp.out.2.1, HDp.out.2.2.1, HEp.out]
      generalize bestF ⟨n, rows, gain⟩ = bb at HDq ⊢
      obtain ⟨bf, bs, bg⟩ := bb
      generalize (solveF ⟨n, rows, gain⟩).proof.length = pl
      have bQ9 := bQr.later hb9
      have t0 := bQ9.cell 0 rfl
      have t1 := bQ9.cell 1 rfl
      have t2 := bQ9.cell 2 rfl
      have ql := bQ9.lt
      clear p0 p1 p2 q1
      go_wp2_with fail
      generalize hS1 : World.alloc w9 _ = A9
      have bS : Blk A9 w9.heap.size [.bool bf, .int .i64 bs, .int .i64 bg, .slice pa pl pn] 37 := by rw [← hS1]; exact Blk.new w9 _ _
      have hbA : Below w9.heap.size w9 A9 := by rw [← hS1]; exact bal w9 _
      clear hS1 t0 t1 t2 ql
      have hb10 := below2 hb9 hbA
      refine (solve_any ⟨n, namedF m0 m1 m2 m3 (turnF rows K) rows.length, gain⟩ _ _ A9 (hMr.below hb10) (hgr.below hb10)).mono ?_
      rintro e w10 ⟨sv, u, rfl, ⟨⟨pv, rfl, hpv⟩, rfl⟩, hb11⟩
      obtain ⟨pa', pn', rfl, -, -, -⟩ := hpv
      rw [HDq.out.1, HDq.out.2.1, HDq.out.2.2.1, HEq.out]
      generalize (solveF ⟨n, namedF m0 m1 m2 m3 (turnF rows K) rows.length, gain⟩).proof.length = pl'
      have hb12 := below2 hb10 hb11
      have bP12 := bPr.later hb12
      have t0 := bP12.cell 0 rfl
      have t1 := bP12.cell 1 rfl
      have t2 := bP12.cell 2 rfl
      have ql := bP12.lt
      go_wp2_with fail
      generalize hS1 : World.alloc w10 _ = A10
      have bS' : Blk A10 w10.heap.size [.bool bf, .int .i64 bs, .int .i64 bg, .slice pa' pl' pn'] 37 := by rw [← hS1]; exact Blk.new w10 _ _
      have hbA' : Below w10.heap.size w10 A10 := by rw [← hS1]; exact bal w10 _
      clear hS1 t0 t1 t2 ql
      have hb13 := below2 hb12 hbA'
      refine (all_any ⟨n, rows, gain⟩ _ _ A10 (hrr.below hb13) (hgr.below hb13)).mono ?_
      rintro e w11 ⟨lv, u, rfl, ⟨hlv, rfl⟩, hb14⟩
      rw [HEp.out]
      obtain ⟨la, ln, rfl, -, -, -⟩ := id hlv
      have hb15 := below2 hb13 hb14
      have bQ15 := bQr.later hb15
      have t0 := bQ15.cell 0 rfl
      have t1 := bQ15.cell 1 rfl
      have t2 := bQ15.cell 2 rfl
      go_wp2_with fail
      refine (all_any ⟨n, namedF m0 m1 m2 m3 (turnF rows K) rows.length, gain⟩ _ _ w11 (hMr.below hb15) (hgr.below hb15)).mono ?_
      rintro e w12 ⟨lv, u, rfl, ⟨hlv', rfl⟩, hb16⟩
      rw [HEq.out]
      rw [HAll.out] at hlv'
      obtain ⟨la', ln', rfl, -, -, -⟩ := id hlv'
      have bS2 := bS.later (below2 hb11 (below2 hbA' (below2 hb14 hb16)))
      have bS2' := bS'.later (below2 hb14 hb16)
      have s0 := bS2.cell 0 rfl
      have s1 := bS2.cell 1 rfl
      have s2 := bS2.cell 2 rfl
      have s0' := bS2'.cell 0 rfl
      have s1' := bS2'.cell 1 rfl
      have s2' := bS2'.cell 2 rfl
      clear t0 t1 t2
      have e1 : ((bs : Int) == (bs : Int)) = true := by simp
      have e2 : (bg == bg) = true := by simp
      have e3 : (bf == bf) = true := by simp
      go_wp2_with fail
      refine (ints_any _ _ _ _ _ ((hlv.keeps (keeps_frm _ _)).keeps (keeps_of_below hb16)) (hlv'.keeps (keeps_frm _ _))).mono ?_
      rw [show intsB (allF ⟨n, rows, gain⟩) (allF ⟨n, rows, gain⟩) = true from by simp [intsB]]
      rintro e w13 ⟨rfl, hb17⟩
      go_wp2_with fail
      go_ret
      exact ⟨rfl, below2 hbwr (below2 hb15 (below2 hb16 hb17))⟩
end Go.Proofs.Ytcaklldmcbpbfaa
