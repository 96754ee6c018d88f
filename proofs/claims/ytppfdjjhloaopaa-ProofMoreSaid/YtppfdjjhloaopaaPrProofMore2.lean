/- ProofMore: the walk, and the row: for every input the law returns true. No condition. -/
import Derived.Test.YtppfdjjhloaopaaPhE
import Derived.Test.YtppfdjjhloaopaaLift
namespace Go.Proofs.Ytppfdjjhloaopaa
open Go.RowKit

set_option maxRecDepth 100000 in
set_option maxHeartbeats 2000000 in
theorem more_any (v : Int) (x : List Tri) (xv : Value) (g : List Int) (y : List Tri) (yv : Value) (by_ : Int) (w : World) (hv : i64B v) (hx : TrisIn w.cell? xv x) (hx64 : ∀ t ∈ x, tri64 t) (hg : g.length = 8) (hg64 : ∀ y ∈ g, i64B y) (hy : TrisIn w.cell? yv y) (hy64 : ∀ t ∈ y, tri64 t) (hby : i64B by_) :
    Calls Try.prog 7 #[.int .i64 v, xv, .agg (g.map (Value.int .i64)).toArray, yv, .int .i64 by_] w (Ret (.bool true) w) := by
  have HM2 := hide (fun W (h : Below w.heap.size w W) => made_own v y yv g W hv (TrisIn.keeps (keeps_of_below h) hy) hy64 hg hg64)
  obtain ⟨ya, yn, rfl, hy1, hy2, -⟩ := id hy
  obtain ⟨g0, g1, g2, g3, g4, g5, g6, g7, rfl⟩ : ∃ g0 g1 g2 g3 g4 g5 g6 g7, g = [g0, g1, g2, g3, g4, g5, g6, g7] := by
    match g, hg with
    | [a, b, c, d, e, f, g, h], _ => exact ⟨_, _, _, _, _, _, _, _, rfl⟩
  obtain ⟨xa, xn, rfl, hx1, hx2, -⟩ := id hx
  have HM := hide (fun W (h : Below w.heap.size w W) => made_any v x (.slice xa x.length xn) [g0, g1, g2, g3, g4, g5, g6, g7] W hv (TrisIn.keeps (keeps_of_below h) hx) hx64 hg hg64)
  clear hx hx64 hg hg64
  clear hy hy64
  go_enter Try.func7, Try.ntmps7
  go_wp2_with fail
  generalize hW0 : World.alloc w _ = W0
  have hb0 : Below w.heap.size w W0 := by rw [← hW0]; exact bal w _
  have bG : Blk W0 w.heap.size ([g0, g1, g2, g3, g4, g5, g6, g7].map (Value.int .i64)) 23 := by rw [← hW0]; exact Blk.new w _ _
  clear hW0
  refine (sane34_any _).mono ?_
  rintro e w1 ⟨rfl, hb1⟩
  have bG1 := bG.later hb1
  have c0 := bG1.cell 0 rfl
  have c1 := bG1.cell 1 rfl
  have c2 := bG1.cell 2 rfl
  have c3 := bG1.cell 3 rfl
  have c4 := bG1.cell 4 rfl
  have c5 := bG1.cell 5 rfl
  have c6 := bG1.cell 6 rfl
  have c7 := bG1.cell 7 rfl
  go_wp2_with fail
  refine (HM.out _ (below2 hb0 hb1)).mono ?_
  rintro e w2 ⟨pv, rfl, hpv, hb2⟩
  have bG3 := bG1.later hb2
  clear c0 c1 c2 c3 c4 c5 c6 c7 HM bG1 bG
  obtain ⟨n, rows, gain, hmf, hn8, hr8, hV, hg31, hmy⟩ := made_form2 v x [g0, g1, g2, g3, g4, g5, g6, g7]
  rw [hmf] at hpv
  clear hmf
  obtain ⟨rv, gv, rfl, hr, hgn⟩ := hpv
  have hr2 : RowsAt w2 rv rows := hr.keeps (keeps_frm _ _)
  have hg2 : IntsAt w2 gv gain := hgn.keeps (keeps_frm _ _)
  obtain ⟨ra, rc, rfl, -, hrm, -⟩ := id hr2
  obtain ⟨ga, gc, rfl, -, hgm, -⟩ := id hg2
  have hbw2 := below2 (below2 hb0 hb1) hb2
  clear hr hgn hb0
  go_wp2_with fail
  generalize hW3 : World.alloc w2 _ = W3
  have bP : Blk W3 w2.heap.size [.int .i64 n, .slice ra rows.length rc, .slice ga gain.length gc] 27 := by rw [← hW3]; exact Blk.new w2 _ _
  have hb3 : Below w2.heap.size w2 W3 := by rw [← hW3]; exact bal w2 _
  have hr3 := hr2.below hb3
  have hg3 := hg2.below hb3
  have hbw3 := below2 hbw2 hb3
  have p0 := bP.cell 0 rfl
  have p1 := bP.cell 1 rfl
  have p2 := bP.cell 2 rfl
  replace bG3 := bG3.later hb3
  clear hW3 hr2 hg2 hbw2
  obtain ⟨rows2, hmf2, hr28, hV2⟩ := hmy y
  rw [hmf2] at HM2
  clear hmf2 hmy
  refine (solve_any ⟨n, rows, gain⟩ _ _ _ hr3 hg3).mono ?_
  rintro e w4 ⟨sv, u, rfl, ⟨⟨pv, rfl, hpv⟩, rfl⟩, hb4⟩
  have hp4 : StepsIn w4.cell? pv (solveF ⟨n, rows, gain⟩).proof := hpv.keeps (keeps_frm _ _)
  rw [errF_in hV, solve_found hV, solve_gain hV]
  have HMB := hide (fun hf d h0 h1 => more_bounds hV hg31 hf (d := d) h0 h1)
  have hVV := app_valid hV hV2 (by omega)
  have HNF := hide (own_refutes hV)
  have HMR := hide (fun hf => more_refutes (rows2 := rows2) (HNF.out hf).1 hVV)
  have hbd := best_bd hV
  have hbs := best_small hV hg31
  generalize (solveF ⟨n, rows, gain⟩).proof = PL at *
  generalize (solveF ⟨n, rows, gain⟩).set = bs'
  generalize bestF ⟨n, rows, gain⟩ = BB at *
  obtain ⟨bf, bs, bg⟩ := BB
  have hbd1 : -12000000000 ≤ bg := hbd.1
  have hbd2 : bg ≤ 1000 := hbs
  have HGL : Hid (gain.length ≤ 1000) := hide (by obtain ⟨-, -, -, -, h1, -⟩ := valid_parts hV; have : (gain.length : Int) = n := h1; omega)
  obtain ⟨pa, pn, rfl, hp1, hp2, -⟩ := id hp4
  have hpl : (PL.length : Int) ≤ 9223372036854775807 := by omega
  replace bP := bP.later hb4
  replace bG3 := bG3.later hb4
  replace hr3 := hr3.below hb4
  replace hg3 := hg3.below hb4
  replace hbw3 := below2 hbw3 hb4
  replace p0 := bP.cell 0 rfl
  replace p1 := bP.cell 1 rfl
  replace p2 := bP.cell 2 rfl
  have lP := bP.lt
  clear hV hV2 hVV hpv hbd hbs hg31 hp1 hp2 hb4
  cases bf
  · go_upto_region 10 with (fail)
    generalize hS1 : World.alloc w4 _ = S1
    have zS1 : S1.heap.size = w4.heap.size + 1 := by rw [← hS1]; simp
    have bS1 : Below w4.heap.size w4 S1 := by rw [← hS1]; exact bal w4 _
    have bS : Blk S1 (w4.heap.size) [.bool false, .int .i64 bs', .int .i64 bg, .slice pa PL.length pn] 34 := by rw [← hS1]; exact Blk.newA w4 _ (by first | rfl | simp)
    have Sb := bS1
    have Sz := zS1
    clear hS1 zS1 bS1
    have hwS := below2 hbw3 Sb
    have hr5 := hr3.below Sb
    have hg5 := hg3.below Sb
    have hp5 := hp4.keeps (keeps_of_below Sb)
    replace bP := bP.later Sb
    replace bG3 := bG3.later Sb
    replace p0 := bP.cell 0 rfl
    replace p1 := bP.cell 1 rfl
    replace p2 := bP.cell 2 rfl
    obtain ⟨Lr, hLl, hL6, hLone, hLs, -, hLt⟩ := rows_from (RowsAt.to hr5)
    have hLt2 := hLt rows.length
    rw [List.take_of_length_le (Nat.le_of_eq hLl)] at hLt2
    have HLl := hide hLl
    have HLs := hide hLs
    have HLt := hide hLt2
    have HL6 := hide hL6
    have HLone := hide hLone
    have hLr8 : Lr.length ≤ 8 := by rw [hLl]; exact hr8
    have HMR2 := hide (HMR.out (by trivial))
    have HR1 := hide (HNF.out (by trivial)).1
    clear hLl hL6 hLone hLs hLt hLt2 HNF HMB HMR Sz Sb hr3 hg3 hp4 hbw3 lP
    go_wp2_with fail
    generalize hQ1 : World.alloc S1 _ = Q1
    have zQ1 : Q1.heap.size = S1.heap.size + 1 := by rw [← hQ1]; simp
    have bQ1 : Below S1.heap.size S1 Q1 := by rw [← hQ1]; exact bal S1 _
    have bQ : Blk Q1 (S1.heap.size) [.int .i64 n, .slice ra rows.length rc, .slice ga gain.length gc] 27 := by rw [← hQ1]; exact Blk.newA S1 _ (by first | rfl | simp)
    have Qb := bQ1
    have Qz := zQ1
    clear hQ1 zQ1 bQ1
    have HQZ : Hid (S1.heap.size + 1 ≤ Q1.heap.size) := hide (by omega)
    have c0 := bG3.cell 0 rfl
    have c1 := bG3.cell 1 rfl
    have c2 := bG3.cell 2 rfl
    have c3 := bG3.cell 3 rfl
    have c4 := bG3.cell 4 rfl
    have c5 := bG3.cell 5 rfl
    have c6 := bG3.cell 6 rfl
    have c7 := bG3.cell 7 rfl
    clear Qz
    refine wp_region_inv [some 45, some 46, some 47, some 48, some 49, some 50, some 51, some 52, some 53, some 54, some 55, none] (fun L vs W => match vs with | [x0, x1, x2, x3, x4, x5, x6, x7, x8, x9, x10, x11] => (QG S1 [.int .i64 n, .slice ra rows.length rc, .slice ga gain.length gc] (L 11) W) ∧ (L 0 = true → L 3 = false → ∃ b0 : Nat, S1.heap.size + 1 ≤ b0 ∧ x0 = .slice (some ⟨b0, 0, none⟩) 0 0 ∧ Blk W b0 [] 67) ∧ (L 1 = true → x1 = .pointer (some ⟨w2.heap.size, 1, none⟩)) ∧ (L 2 = true → x2 = .slice ra rows.length rc) ∧ (L 3 = true → L 9 = false → OwnR W (S1.heap.size + 1) 67 6 x3 Lr) ∧ (L 4 = true → x4 = .int .i64 v) ∧ (L 5 = true → x5 = .slice ya y.length yn) ∧ (L 6 = true → x6 = .agg #[.int .i64 g0, .int .i64 g1, .int .i64 g2, .int .i64 g3, .int .i64 g4, .int .i64 g5, .int .i64 g6, .int .i64 g7]) ∧ (L 7 = true → L 9 = false → ∃ rv gv : Value, ∃ BA A : Nat, x7 = .agg #[.int .i64 n, rv, gv] ∧ RowsOwn W A BA rv rows2 ∧ (L 0 = true → L 3 = false → Apart x0 rv)) ∧ (L 8 = true → L 9 = false → ∃ BA A : Nat, RowsOwn W A BA x8 rows2 ∧ (L 0 = true → L 3 = false → Apart x0 x8)) ∧ (L 9 = true → (L 3 = true ∧ L 8 = true) ∧ (L 11 = false → RowsTwo S1 W x9 rows rows2)) ∧ (L 10 = true → x10 = .pointer (some ⟨S1.heap.size, 1, none⟩)) ∧ (L 11 = true → (L 3 = true ∧ L 9 = true) ∧ ∃ a c, Blk W S1.heap.size [.int .i64 n, .slice a (rows.length + rows2.length) c, .slice ga gain.length gc] 27 ∧ RowsAt W (.slice a (rows.length + rows2.length) c) (rows ++ rows2)) | _ => False) [_, _, _, _, _, _, _, _, _, _, _, undef] (by kernel_rfl) (by kernel_rfl) rfl (by simp only [puts, Act.put, List.setIfInBounds_toArray, List.set_cons_zero, List.set_cons_succ] <;> rfl) ?_ ?_ ?_
    · exact ⟨⟨Qb.drew, fun _ => bQ, HQZ.out⟩, (fun h => by cases h), (fun h => by cases h), (fun h => by cases h), (fun h => by cases h), (fun h => by cases h), (fun h => by cases h), (fun h => by cases h), (fun h => by cases h), (fun h => by cases h), (fun h => by cases h), (fun h => by cases h), (fun h => by cases h)⟩
    · refine ⟨?_, ?_, ?_, ?_, ?_, ?_, ?_, ?_, ?_, ?_, ?_, ?_, trivial⟩
      · intro L vs W hlen hL hD hI K hK
        obtain ⟨x0, x1, x2, x3, x4, x5, x6, x7, x8, x9, x10, x11, rfl⟩ := len12 hlen
        have hG := hI.1
        replace hI := hI.2
        have f0 := hide hI.1
        replace hI := hI.2
        have f1 := hide hI.1
        replace hI := hI.2
        have f2 := hide hI.1
        replace hI := hI.2
        have f3 := hide hI.1
        replace hI := hI.2
        have f4 := hide hI.1
        replace hI := hI.2
        have f5 := hide hI.1
        replace hI := hI.2
        have f6 := hide hI.1
        replace hI := hI.2
        have f7 := hide hI.1
        replace hI := hI.2
        have f8 := hide hI.1
        replace hI := hI.2
        have f9 := hide hI.1
        replace hI := hI.2
        have f10 := hide hI.1
        replace hI := hI.2
        have f11 := hide hI
        clear hI
        have hGb := hG.hb
        have p0 := keep hGb p0
        have p1 := keep hGb p1
        have p2 := keep hGb p2
        have c0 := keep hGb c0
        have c1 := keep hGb c1
        have c2 := keep hGb c2
        have c3 := keep hGb c3
        have c4 := keep hGb c4
        have c5 := keep hGb c5
        have c6 := keep hGb c6
        have c7 := keep hGb c7
        try simp only [puts, Act.put, List.setIfInBounds_toArray, List.set_cons_zero, List.set_cons_succ]
        try go_simp
        generalize hW' : World.alloc W _ = W'
        have hb : Below W.heap.size W W' := by rw [← hW']; exact bal W _
        exact hK.out _ _ _ (by simp only [puts, Act.put, List.setIfInBounds_toArray, List.set_cons_zero, List.set_cons_succ] <;> rfl) ⟨hG.step (hb.mono hG.hs), (fun _ => fun _ => ⟨W.heap.size, hG.hs, rfl, by rw [← hW'] ; exact Blk.newA W _ rfl⟩), (fun h => f1.out h), (fun h => f2.out h), (fun h => (fun h => fun h9 => (h h9).later' hb) (f3.out h)), (fun h => f4.out h), (fun h => f5.out h), (fun h => f6.out h), (fun h => (fun h h9 => let ⟨rv, gv, BA, A, e, hR, _⟩ := h h9; ⟨rv, gv, BA, A, e, hR.later hb, fun _ _ q hq he => (by have e1 : W.heap.size = q := Option.some.inj hq ; have := (hR.blockLt he).1 ; omega)⟩) (f7.out h)), (fun h => (fun h h9 => let ⟨BA, A, hR, _⟩ := h h9; ⟨BA, A, hR.later hb, fun _ _ q hq he => (by have e1 : W.heap.size = q := Option.some.inj hq ; have := (hR.blockLt he).1 ; omega)⟩) (f8.out h)), (fun h => (fun h => ⟨h.1, fun h11 => (h.2 h11).later hb⟩) (f9.out h)), (fun h => f10.out h), (fun h => (fun h => ⟨h.1, let ⟨a, c, b, r⟩ := h.2; ⟨a, c, b.later hb, r.below hb⟩⟩) (f11.out h))⟩
      · intro L vs W hlen hL hD hI K hK
        obtain ⟨x0, x1, x2, x3, x4, x5, x6, x7, x8, x9, x10, x11, rfl⟩ := len12 hlen
        have hG := hI.1
        replace hI := hI.2
        have f0 := hide hI.1
        replace hI := hI.2
        have f1 := hide hI.1
        replace hI := hI.2
        have f2 := hide hI.1
        replace hI := hI.2
        have f3 := hide hI.1
        replace hI := hI.2
        have f4 := hide hI.1
        replace hI := hI.2
        have f5 := hide hI.1
        replace hI := hI.2
        have f6 := hide hI.1
        replace hI := hI.2
        have f7 := hide hI.1
        replace hI := hI.2
        have f8 := hide hI.1
        replace hI := hI.2
        have f9 := hide hI.1
        replace hI := hI.2
        have f10 := hide hI.1
        replace hI := hI.2
        have f11 := hide hI
        clear hI
        have hGb := hG.hb
        have p0 := keep hGb p0
        have p1 := keep hGb p1
        have p2 := keep hGb p2
        have c0 := keep hGb c0
        have c1 := keep hGb c1
        have c2 := keep hGb c2
        have c3 := keep hGb c3
        have c4 := keep hGb c4
        have c5 := keep hGb c5
        have c6 := keep hGb c6
        have c7 := keep hGb c7
        try simp only [puts, Act.put, List.setIfInBounds_toArray, List.set_cons_zero, List.set_cons_succ]
        try go_simp
        exact hK.out _ _ _ (by simp only [puts, Act.put, List.setIfInBounds_toArray, List.set_cons_zero, List.set_cons_succ] <;> rfl) ⟨hG, (fun h => f0.out h), (fun _ => rfl), (fun h => f2.out h), (fun h => f3.out h), (fun h => f4.out h), (fun h => f5.out h), (fun h => f6.out h), (fun h => f7.out h), (fun h => f8.out h), (fun h => f9.out h), (fun h => f10.out h), (fun h => f11.out h)⟩
      · intro L vs W hlen hL hD hI K hK
        obtain ⟨x0, x1, x2, x3, x4, x5, x6, x7, x8, x9, x10, x11, rfl⟩ := len12 hlen
        have hG := hI.1
        replace hI := hI.2
        have f0 := hide hI.1
        replace hI := hI.2
        have f1 := hide hI.1
        replace hI := hI.2
        have f2 := hide hI.1
        replace hI := hI.2
        have f3 := hide hI.1
        replace hI := hI.2
        have f4 := hide hI.1
        replace hI := hI.2
        have f5 := hide hI.1
        replace hI := hI.2
        have f6 := hide hI.1
        replace hI := hI.2
        have f7 := hide hI.1
        replace hI := hI.2
        have f8 := hide hI.1
        replace hI := hI.2
        have f9 := hide hI.1
        replace hI := hI.2
        have f10 := hide hI.1
        replace hI := hI.2
        have f11 := hide hI
        clear hI
        have hGb := hG.hb
        have p0 := keep hGb p0
        have p1 := keep hGb p1
        have p2 := keep hGb p2
        have c0 := keep hGb c0
        have c1 := keep hGb c1
        have c2 := keep hGb c2
        have c3 := keep hGb c3
        have c4 := keep hGb c4
        have c5 := keep hGb c5
        have c6 := keep hGb c6
        have c7 := keep hGb c7
        obtain rfl := f1.out (hD.on 1 (by kernel_rfl))
        try simp only [puts, Act.put, List.setIfInBounds_toArray, List.set_cons_zero, List.set_cons_succ]
        try go_simp
        exact hK.out _ _ _ (by simp only [puts, Act.put, List.setIfInBounds_toArray, List.set_cons_zero, List.set_cons_succ] <;> rfl) ⟨hG, (fun h => f0.out h), (fun h => f1.out h), (fun _ => rfl), (fun h => f3.out h), (fun h => f4.out h), (fun h => f5.out h), (fun h => f6.out h), (fun h => f7.out h), (fun h => f8.out h), (fun h => f9.out h), (fun h => f10.out h), (fun h => f11.out h)⟩
      · intro L vs W hlen hL hD hI K hK
        obtain ⟨x0, x1, x2, x3, x4, x5, x6, x7, x8, x9, x10, x11, rfl⟩ := len12 hlen
        have hG := hI.1
        replace hI := hI.2
        have f0 := hide hI.1
        replace hI := hI.2
        have f1 := hide hI.1
        replace hI := hI.2
        have f2 := hide hI.1
        replace hI := hI.2
        have f3 := hide hI.1
        replace hI := hI.2
        have f4 := hide hI.1
        replace hI := hI.2
        have f5 := hide hI.1
        replace hI := hI.2
        have f6 := hide hI.1
        replace hI := hI.2
        have f7 := hide hI.1
        replace hI := hI.2
        have f8 := hide hI.1
        replace hI := hI.2
        have f9 := hide hI.1
        replace hI := hI.2
        have f10 := hide hI.1
        replace hI := hI.2
        have f11 := hide hI
        clear hI
        have hGb := hG.hb
        have p0 := keep hGb p0
        have p1 := keep hGb p1
        have p2 := keep hGb p2
        have c0 := keep hGb c0
        have c1 := keep hGb c1
        have c2 := keep hGb c2
        have c3 := keep hGb c3
        have c4 := keep hGb c4
        have c5 := keep hGb c5
        have c6 := keep hGb c6
        have c7 := keep hGb c7
        have g0 := f0.out (hD.on 0 (by kernel_rfl))
        obtain rfl := f2.out (hD.on 2 (by kernel_rfl))
        try simp only [puts, Act.put, List.setIfInBounds_toArray, List.set_cons_zero, List.set_cons_succ]
        obtain ⟨b0, hb0, rfl, hB0⟩ := g0 hL
        refine step_app_two infoRow rfl (by decide) Try.underlying24 rfl _ _ rfl (S1.heap.size + 1) _ [] rfl (own_empty hB0 hb0) _ _ _ Lr HLl.out.symm rfl HL6.out HLone.out (fun b hb j u hj => keep hGb (HLt.out.1 b hb j u hj)) HLt.out.2 (by simp only [List.length_nil, Nat.zero_add] ; omega) (by simp only [List.length_nil, Nat.zero_add] ; omega) hG.hs ?_
        intro v' W' hO hg
        have hg' : W.grownBy W' (some b0) := hg
        have hb := below_own2 (own_empty (k := 6) hB0 hb0) hG.hs hg
        exact hK.out _ _ _ (by simp only [puts, Act.put, List.setIfInBounds_toArray, List.set_cons_zero, List.set_cons_succ] <;> rfl) ⟨hG.step hb, (fun h => (fun _ h3 => absurd h3 (by simp)) (f0.out h)), (fun h => f1.out h), (fun h => f2.out h), (fun _ => fun _ => by simpa using hO), (fun h => f4.out h), (fun h => f5.out h), (fun h => f6.out h), (fun h => (fun h h9 => let ⟨rv, gv, BA, A, e, hR, ha⟩ := h h9; ⟨rv, gv, BA, A, e, hR.grown hB0 hg' (ha (hD.on 0 (by kernel_rfl)) hL _ rfl), fun _ h3 => absurd h3 (by simp)⟩) (f7.out h)), (fun h => (fun h h9 => let ⟨BA, A, hR, ha⟩ := h h9; ⟨BA, A, hR.grown hB0 hg' (ha (hD.on 0 (by kernel_rfl)) hL _ rfl), fun _ h3 => absurd h3 (by simp)⟩) (f8.out h)), (fun h => (fun h => absurd (h.1.1.symm.trans hL) (by decide)) (f9.out h)), (fun h => f10.out h), (fun h => (fun h => absurd (h.1.1.symm.trans hL) (by decide)) (f11.out h))⟩
      · intro L vs W hlen hL hD hI K hK
        obtain ⟨x0, x1, x2, x3, x4, x5, x6, x7, x8, x9, x10, x11, rfl⟩ := len12 hlen
        have hG := hI.1
        replace hI := hI.2
        have f0 := hide hI.1
        replace hI := hI.2
        have f1 := hide hI.1
        replace hI := hI.2
        have f2 := hide hI.1
        replace hI := hI.2
        have f3 := hide hI.1
        replace hI := hI.2
        have f4 := hide hI.1
        replace hI := hI.2
        have f5 := hide hI.1
        replace hI := hI.2
        have f6 := hide hI.1
        replace hI := hI.2
        have f7 := hide hI.1
        replace hI := hI.2
        have f8 := hide hI.1
        replace hI := hI.2
        have f9 := hide hI.1
        replace hI := hI.2
        have f10 := hide hI.1
        replace hI := hI.2
        have f11 := hide hI
        clear hI
        have hGb := hG.hb
        have p0 := keep hGb p0
        have p1 := keep hGb p1
        have p2 := keep hGb p2
        have c0 := keep hGb c0
        have c1 := keep hGb c1
        have c2 := keep hGb c2
        have c3 := keep hGb c3
        have c4 := keep hGb c4
        have c5 := keep hGb c5
        have c6 := keep hGb c6
        have c7 := keep hGb c7
        try simp only [puts, Act.put, List.setIfInBounds_toArray, List.set_cons_zero, List.set_cons_succ]
        try go_simp
        exact hK.out _ _ _ (by simp only [puts, Act.put, List.setIfInBounds_toArray, List.set_cons_zero, List.set_cons_succ] <;> rfl) ⟨hG, (fun h => f0.out h), (fun h => f1.out h), (fun h => f2.out h), (fun h => f3.out h), (fun _ => rfl), (fun h => f5.out h), (fun h => f6.out h), (fun h => f7.out h), (fun h => f8.out h), (fun h => f9.out h), (fun h => f10.out h), (fun h => f11.out h)⟩
      · intro L vs W hlen hL hD hI K hK
        obtain ⟨x0, x1, x2, x3, x4, x5, x6, x7, x8, x9, x10, x11, rfl⟩ := len12 hlen
        have hG := hI.1
        replace hI := hI.2
        have f0 := hide hI.1
        replace hI := hI.2
        have f1 := hide hI.1
        replace hI := hI.2
        have f2 := hide hI.1
        replace hI := hI.2
        have f3 := hide hI.1
        replace hI := hI.2
        have f4 := hide hI.1
        replace hI := hI.2
        have f5 := hide hI.1
        replace hI := hI.2
        have f6 := hide hI.1
        replace hI := hI.2
        have f7 := hide hI.1
        replace hI := hI.2
        have f8 := hide hI.1
        replace hI := hI.2
        have f9 := hide hI.1
        replace hI := hI.2
        have f10 := hide hI.1
        replace hI := hI.2
        have f11 := hide hI
        clear hI
        have hGb := hG.hb
        have p0 := keep hGb p0
        have p1 := keep hGb p1
        have p2 := keep hGb p2
        have c0 := keep hGb c0
        have c1 := keep hGb c1
        have c2 := keep hGb c2
        have c3 := keep hGb c3
        have c4 := keep hGb c4
        have c5 := keep hGb c5
        have c6 := keep hGb c6
        have c7 := keep hGb c7
        try simp only [puts, Act.put, List.setIfInBounds_toArray, List.set_cons_zero, List.set_cons_succ]
        try go_simp
        exact hK.out _ _ _ (by simp only [puts, Act.put, List.setIfInBounds_toArray, List.set_cons_zero, List.set_cons_succ] <;> rfl) ⟨hG, (fun h => f0.out h), (fun h => f1.out h), (fun h => f2.out h), (fun h => f3.out h), (fun h => f4.out h), (fun _ => rfl), (fun h => f6.out h), (fun h => f7.out h), (fun h => f8.out h), (fun h => f9.out h), (fun h => f10.out h), (fun h => f11.out h)⟩
      · intro L vs W hlen hL hD hI K hK
        obtain ⟨x0, x1, x2, x3, x4, x5, x6, x7, x8, x9, x10, x11, rfl⟩ := len12 hlen
        have hG := hI.1
        replace hI := hI.2
        have f0 := hide hI.1
        replace hI := hI.2
        have f1 := hide hI.1
        replace hI := hI.2
        have f2 := hide hI.1
        replace hI := hI.2
        have f3 := hide hI.1
        replace hI := hI.2
        have f4 := hide hI.1
        replace hI := hI.2
        have f5 := hide hI.1
        replace hI := hI.2
        have f6 := hide hI.1
        replace hI := hI.2
        have f7 := hide hI.1
        replace hI := hI.2
        have f8 := hide hI.1
        replace hI := hI.2
        have f9 := hide hI.1
        replace hI := hI.2
        have f10 := hide hI.1
        replace hI := hI.2
        have f11 := hide hI
        clear hI
        have hGb := hG.hb
        have p0 := keep hGb p0
        have p1 := keep hGb p1
        have p2 := keep hGb p2
        have c0 := keep hGb c0
        have c1 := keep hGb c1
        have c2 := keep hGb c2
        have c3 := keep hGb c3
        have c4 := keep hGb c4
        have c5 := keep hGb c5
        have c6 := keep hGb c6
        have c7 := keep hGb c7
        try simp only [puts, Act.put, List.setIfInBounds_toArray, List.set_cons_zero, List.set_cons_succ]
        try go_simp
        exact hK.out _ _ _ (by simp only [puts, Act.put, List.setIfInBounds_toArray, List.set_cons_zero, List.set_cons_succ] <;> rfl) ⟨hG, (fun h => f0.out h), (fun h => f1.out h), (fun h => f2.out h), (fun h => f3.out h), (fun h => f4.out h), (fun h => f5.out h), (fun _ => rfl), (fun h => f7.out h), (fun h => f8.out h), (fun h => f9.out h), (fun h => f10.out h), (fun h => f11.out h)⟩
      · intro L vs W hlen hL hD hI K hK
        obtain ⟨x0, x1, x2, x3, x4, x5, x6, x7, x8, x9, x10, x11, rfl⟩ := len12 hlen
        have hG := hI.1
        replace hI := hI.2
        have f0 := hide hI.1
        replace hI := hI.2
        have f1 := hide hI.1
        replace hI := hI.2
        have f2 := hide hI.1
        replace hI := hI.2
        have f3 := hide hI.1
        replace hI := hI.2
        have f4 := hide hI.1
        replace hI := hI.2
        have f5 := hide hI.1
        replace hI := hI.2
        have f6 := hide hI.1
        replace hI := hI.2
        have f7 := hide hI.1
        replace hI := hI.2
        have f8 := hide hI.1
        replace hI := hI.2
        have f9 := hide hI.1
        replace hI := hI.2
        have f10 := hide hI.1
        replace hI := hI.2
        have f11 := hide hI
        clear hI
        have hGb := hG.hb
        have p0 := keep hGb p0
        have p1 := keep hGb p1
        have p2 := keep hGb p2
        have c0 := keep hGb c0
        have c1 := keep hGb c1
        have c2 := keep hGb c2
        have c3 := keep hGb c3
        have c4 := keep hGb c4
        have c5 := keep hGb c5
        have c6 := keep hGb c6
        have c7 := keep hGb c7
        obtain rfl := f4.out (hD.on 4 (by kernel_rfl))
        obtain rfl := f5.out (hD.on 5 (by kernel_rfl))
        obtain rfl := f6.out (hD.on 6 (by kernel_rfl))
        try simp only [puts, Act.put, List.setIfInBounds_toArray, List.set_cons_zero, List.set_cons_succ]
        try go_simp
        refine (HM2.out W (below2 hwS hGb)).mono ?_
        rintro e W' ⟨rv, gv, BA, rfl, hBA, hRO, hGO, hbb⟩
        try go_simp
        have hb := hbb
        exact hK.out _ _ _ (by simp only [puts, Act.put, List.setIfInBounds_toArray, List.set_cons_zero, List.set_cons_succ] <;> rfl) ⟨hG.step (hb.mono hG.hs), (fun h => (fun h => fun h3 => let ⟨b0, a1, a2, a3⟩ := h h3; ⟨b0, a1, a2, a3.later hb⟩) (f0.out h)), (fun h => f1.out h), (fun h => f2.out h), (fun h => (fun h => fun h9 => (h h9).later' hb) (f3.out h)), (fun h => f4.out h), (fun h => f5.out h), (fun h => f6.out h), (fun _ => fun _ => ⟨rv, gv, BA, _, rfl, hRO, fun h0 h3 q hq he => (by obtain ⟨b0, a1, a2, a3⟩ := f0.out h0 h3 ; rw [a2] at hq ; have e1 : b0 = q := Option.some.inj hq ; have h1 := a3.lt ; have h2 := (hRO.blockLt he).2 ; omega)⟩), (fun h => (fun h => fun h9 => let ⟨BA, A, hR, ha⟩ := h h9; ⟨BA, A, hR.later hb, ha⟩) (f8.out h)), (fun h => (fun h => ⟨h.1, fun h11 => (h.2 h11).later hb⟩) (f9.out h)), (fun h => f10.out h), (fun h => (fun h => ⟨h.1, let ⟨a, c, b, r⟩ := h.2; ⟨a, c, b.later hb, r.below hb⟩⟩) (f11.out h))⟩
      · intro L vs W hlen hL hD hI K hK
        obtain ⟨x0, x1, x2, x3, x4, x5, x6, x7, x8, x9, x10, x11, rfl⟩ := len12 hlen
        have hG := hI.1
        replace hI := hI.2
        have f0 := hide hI.1
        replace hI := hI.2
        have f1 := hide hI.1
        replace hI := hI.2
        have f2 := hide hI.1
        replace hI := hI.2
        have f3 := hide hI.1
        replace hI := hI.2
        have f4 := hide hI.1
        replace hI := hI.2
        have f5 := hide hI.1
        replace hI := hI.2
        have f6 := hide hI.1
        replace hI := hI.2
        have f7 := hide hI.1
        replace hI := hI.2
        have f8 := hide hI.1
        replace hI := hI.2
        have f9 := hide hI.1
        replace hI := hI.2
        have f10 := hide hI.1
        replace hI := hI.2
        have f11 := hide hI
        clear hI
        have hGb := hG.hb
        have p0 := keep hGb p0
        have p1 := keep hGb p1
        have p2 := keep hGb p2
        have c0 := keep hGb c0
        have c1 := keep hGb c1
        have c2 := keep hGb c2
        have c3 := keep hGb c3
        have c4 := keep hGb c4
        have c5 := keep hGb c5
        have c6 := keep hGb c6
        have c7 := keep hGb c7
        have g7 := f7.out (hD.on 7 (by kernel_rfl))
        try simp only [puts, Act.put, List.setIfInBounds_toArray, List.set_cons_zero, List.set_cons_succ]
        have h9 : L 9 = false := Bool.eq_false_iff.2 (fun h => absurd ((f9.out h).1.2.symm.trans hL) (by decide))
        obtain ⟨rv, gv, BA, A, rfl, hR, ha⟩ := g7 h9
        obtain ⟨fa, fc, rfl⟩ := hR.form
        have hfr := run_field_rows (.int .i64 n) gv fa rows2.length fc W
        go_simp
        exact hK.out _ _ _ (by simp only [puts, Act.put, List.setIfInBounds_toArray, List.set_cons_zero, List.set_cons_succ] <;> rfl) ⟨hG, (fun h => f0.out h), (fun h => f1.out h), (fun h => f2.out h), (fun h => f3.out h), (fun h => f4.out h), (fun h => f5.out h), (fun h => f6.out h), (fun h => f7.out h), (fun _ => fun _ => ⟨BA, A, hR, ha⟩), (fun h => (fun h => absurd (h.1.2.symm.trans hL) (by decide)) (f9.out h)), (fun h => f10.out h), (fun h => f11.out h)⟩
      · intro L vs W hlen hL hD hI K hK
        obtain ⟨x0, x1, x2, x3, x4, x5, x6, x7, x8, x9, x10, x11, rfl⟩ := len12 hlen
        have hG := hI.1
        replace hI := hI.2
        have f0 := hide hI.1
        replace hI := hI.2
        have f1 := hide hI.1
        replace hI := hI.2
        have f2 := hide hI.1
        replace hI := hI.2
        have f3 := hide hI.1
        replace hI := hI.2
        have f4 := hide hI.1
        replace hI := hI.2
        have f5 := hide hI.1
        replace hI := hI.2
        have f6 := hide hI.1
        replace hI := hI.2
        have f7 := hide hI.1
        replace hI := hI.2
        have f8 := hide hI.1
        replace hI := hI.2
        have f9 := hide hI.1
        replace hI := hI.2
        have f10 := hide hI.1
        replace hI := hI.2
        have f11 := hide hI
        clear hI
        have hGb := hG.hb
        have p0 := keep hGb p0
        have p1 := keep hGb p1
        have p2 := keep hGb p2
        have c0 := keep hGb c0
        have c1 := keep hGb c1
        have c2 := keep hGb c2
        have c3 := keep hGb c3
        have c4 := keep hGb c4
        have c5 := keep hGb c5
        have c6 := keep hGb c6
        have c7 := keep hGb c7
        have g3 := f3.out (hD.on 3 (by kernel_rfl))
        have g8 := f8.out (hD.on 8 (by kernel_rfl))
        try simp only [puts, Act.put, List.setIfInBounds_toArray, List.set_cons_zero, List.set_cons_succ]
        obtain ⟨BA, A, hR8, ha8⟩ := g8 hL
        obtain ⟨L2, a8, c8, rfl, hl2, h62, ho2, hc2, hn2, hs2⟩ := hR8.list
        have hO3 := g3 hL
        refine step_app_two infoRow rfl (by decide) Try.underlying24 rfl _ _ rfl (S1.heap.size + 1) _ Lr rfl hO3 _ _ _ L2 hl2.symm rfl h62 ho2 hc2 hn2 (by rw [hl2] ; omega) (by rw [hl2] ; omega) hG.hs ?_
        intro v' W' hO hg
        have hb := below_own2 hO3 hG.hs hg
        exact hK.out _ _ _ (by simp only [puts, Act.put, List.setIfInBounds_toArray, List.set_cons_zero, List.set_cons_succ] <;> rfl) ⟨hG.step hb, (fun h => (fun _ h3 => absurd (h3.symm.trans (hD.on 3 (by kernel_rfl))) (by decide)) (f0.out h)), (fun h => f1.out h), (fun h => f2.out h), (fun h => (fun _ h9 => absurd h9 (by simp)) (f3.out h)), (fun h => f4.out h), (fun h => f5.out h), (fun h => f6.out h), (fun h => (fun _ h9 => absurd h9 (by simp)) (f7.out h)), (fun h => (fun _ h9 => absurd h9 (by simp)) (f8.out h)), (fun _ => ⟨⟨hD.on 3 (by kernel_rfl), hD.on 8 (by kernel_rfl)⟩, fun _ => RowsTwo.made HLl.out HLs.out hO3 hl2 hs2 hO hg⟩), (fun h => f10.out h), (fun h => (fun h => absurd (h.1.2.symm.trans hL) (by decide)) (f11.out h))⟩
      · intro L vs W hlen hL hD hI K hK
        obtain ⟨x0, x1, x2, x3, x4, x5, x6, x7, x8, x9, x10, x11, rfl⟩ := len12 hlen
        have hG := hI.1
        replace hI := hI.2
        have f0 := hide hI.1
        replace hI := hI.2
        have f1 := hide hI.1
        replace hI := hI.2
        have f2 := hide hI.1
        replace hI := hI.2
        have f3 := hide hI.1
        replace hI := hI.2
        have f4 := hide hI.1
        replace hI := hI.2
        have f5 := hide hI.1
        replace hI := hI.2
        have f6 := hide hI.1
        replace hI := hI.2
        have f7 := hide hI.1
        replace hI := hI.2
        have f8 := hide hI.1
        replace hI := hI.2
        have f9 := hide hI.1
        replace hI := hI.2
        have f10 := hide hI.1
        replace hI := hI.2
        have f11 := hide hI
        clear hI
        have hGb := hG.hb
        have p0 := keep hGb p0
        have p1 := keep hGb p1
        have p2 := keep hGb p2
        have c0 := keep hGb c0
        have c1 := keep hGb c1
        have c2 := keep hGb c2
        have c3 := keep hGb c3
        have c4 := keep hGb c4
        have c5 := keep hGb c5
        have c6 := keep hGb c6
        have c7 := keep hGb c7
        try simp only [puts, Act.put, List.setIfInBounds_toArray, List.set_cons_zero, List.set_cons_succ]
        try go_simp
        exact hK.out _ _ _ (by simp only [puts, Act.put, List.setIfInBounds_toArray, List.set_cons_zero, List.set_cons_succ] <;> rfl) ⟨hG, (fun h => f0.out h), (fun h => f1.out h), (fun h => f2.out h), (fun h => f3.out h), (fun h => f4.out h), (fun h => f5.out h), (fun h => f6.out h), (fun h => f7.out h), (fun h => f8.out h), (fun h => f9.out h), (fun _ => rfl), (fun h => f11.out h)⟩
      · intro L vs W hlen hL hD hI K hK
        obtain ⟨x0, x1, x2, x3, x4, x5, x6, x7, x8, x9, x10, x11, rfl⟩ := len12 hlen
        have hG := hI.1
        replace hI := hI.2
        have f0 := hide hI.1
        replace hI := hI.2
        have f1 := hide hI.1
        replace hI := hI.2
        have f2 := hide hI.1
        replace hI := hI.2
        have f3 := hide hI.1
        replace hI := hI.2
        have f4 := hide hI.1
        replace hI := hI.2
        have f5 := hide hI.1
        replace hI := hI.2
        have f6 := hide hI.1
        replace hI := hI.2
        have f7 := hide hI.1
        replace hI := hI.2
        have f8 := hide hI.1
        replace hI := hI.2
        have f9 := hide hI.1
        replace hI := hI.2
        have f10 := hide hI.1
        replace hI := hI.2
        have f11 := hide hI
        clear hI
        have hGb := hG.hb
        have p0 := keep hGb p0
        have p1 := keep hGb p1
        have p2 := keep hGb p2
        have c0 := keep hGb c0
        have c1 := keep hGb c1
        have c2 := keep hGb c2
        have c3 := keep hGb c3
        have c4 := keep hGb c4
        have c5 := keep hGb c5
        have c6 := keep hGb c6
        have c7 := keep hGb c7
        have g9 := f9.out (hD.on 9 (by kernel_rfl))
        obtain rfl := f10.out (hD.on 10 (by kernel_rfl))
        try simp only [puts, Act.put, List.setIfInBounds_toArray, List.set_cons_zero, List.set_cons_succ]
        have hT := g9.2 hL
        obtain ⟨a9, c9, rfl⟩ := hT.form
        have hG8 := hG
        rw [hL] at hG8
        have hq := hG8.hq rfl
        have z0 := hq.frozen 1
        have z1 := hq.cell 1 rfl
        go_simp
        have hb := Below.refl W.heap.size W
        exact hK.out _ undef _ (by simp only [puts, Act.put, List.setIfInBounds_toArray, List.set_cons_zero, List.set_cons_succ] <;> rfl) ⟨hG8.put _ _ (by simp), (fun h => (fun _ h3 => absurd (h3.symm.trans g9.1.1) (by decide)) (f0.out h)), (fun h => f1.out h), (fun h => f2.out h), (fun h => (fun _ h9 => absurd (h9.symm.trans (hD.on 9 (by kernel_rfl))) (by decide)) (f3.out h)), (fun h => f4.out h), (fun h => f5.out h), (fun h => f6.out h), (fun h => (fun _ h9 => absurd (h9.symm.trans (hD.on 9 (by kernel_rfl))) (by decide)) (f7.out h)), (fun h => (fun _ h9 => absurd (h9.symm.trans (hD.on 9 (by kernel_rfl))) (by decide)) (f8.out h)), (fun h => (fun h => ⟨h.1, fun h11 => absurd h11 (by simp)⟩) (f9.out h)), (fun h => f10.out h), (fun _ => ⟨⟨g9.1.1, hD.on 9 (by kernel_rfl)⟩, a9, c9, hq.set 1 _, (hT.put hq _).rows (hG8.put _ true rfl).hb⟩)⟩
    intro L vs W hlen hall hI
    obtain ⟨x0, x1, x2, x3, x4, x5, x6, x7, x8, x9, x10, x11, rfl⟩ := len12 hlen
    have hG := hI.1
    replace hI := hI.2
    have f0 := hide hI.1
    replace hI := hI.2
    have f1 := hide hI.1
    replace hI := hI.2
    have f2 := hide hI.1
    replace hI := hI.2
    have f3 := hide hI.1
    replace hI := hI.2
    have f4 := hide hI.1
    replace hI := hI.2
    have f5 := hide hI.1
    replace hI := hI.2
    have f6 := hide hI.1
    replace hI := hI.2
    have f7 := hide hI.1
    replace hI := hI.2
    have f8 := hide hI.1
    replace hI := hI.2
    have f9 := hide hI.1
    replace hI := hI.2
    have f10 := hide hI.1
    replace hI := hI.2
    have f11 := hide hI
    clear hI
    have g0 := f0.out (hall 0 (by decide))
    obtain rfl := f1.out (hall 1 (by decide))
    obtain rfl := f2.out (hall 2 (by decide))
    have g3 := f3.out (hall 3 (by decide))
    obtain rfl := f4.out (hall 4 (by decide))
    obtain rfl := f5.out (hall 5 (by decide))
    obtain rfl := f6.out (hall 6 (by decide))
    have g7 := f7.out (hall 7 (by decide))
    have g8 := f8.out (hall 8 (by decide))
    have g9 := f9.out (hall 9 (by decide))
    obtain rfl := f10.out (hall 10 (by decide))
    have g11 := f11.out (hall 11 (by decide))
    have hal := hide hall
    clear hall f0 f1 f2 f3 f4 f5 f6 f7 f8 f9 f10 f11
    try simp only [puts, Act.put, List.setIfInBounds_toArray, List.set_cons_zero, List.set_cons_succ]
    obtain ⟨-, ra2, rc2, bQ2, hrQ⟩ := g11
    have hb5 := hG.hb
    have hwW := below2 hwS hb5
    obtain ⟨W7, rfl⟩ : ∃ W', W' = W := ⟨_, rfl⟩
    have hg7 := hg5.below hb5
    have hp7 := hp5.keeps (keeps_of_below hb5)
    have hr7 := hr5.below hb5
    replace bP := bP.later hb5
    have bS7 := bS.later hb5
    have p0 := bP.cell 0 rfl
    have p1 := bP.cell 1 rfl
    have p2 := bP.cell 2 rfl
    have q0 := bQ2.cell 0 rfl
    have q1 := bQ2.cell 1 rfl
    have q2 := bQ2.cell 2 rfl
    have s3 := bS7.cell 3 rfl
    obtain ⟨U, hU⟩ : ∃ U, usedP ⟨n, rows, gain⟩ PL = U := ⟨_, rfl⟩
    rw [hU] at HMR2
    have HU := hide hU
    have HUU : Hid (intsB U U = true) := hide (by simp [intsB])
    clear hU hb5 hG g9 bQ bS bG3 hr5 hg5 hp5 hwS HLl HLs HLt HL6 HLone HM2 bP bS7 bQ2 HQZ hLr8 hr8 hr28 hn8 hy1 hy2 hrm hgm hbd1 hbd2 c0 c1 c2 c3 c4 c5 c6 c7
    go_wp2_with fail
    refine wp_region_inv [some 56, some 57, some 58, some 59, some 60, some 61, some 62, some 63, some 64, some 65, some 66, some 67, some 68, some 69, some 70, some 71, some 72, some 73, some 10] (fun L vs W => match vs with | [x0, x1, x2, x3, x4, x5, x6, x7, x8, x9, x10, x11, x12, x13, x14, x15, x16, x17, x18] => (Below W7.heap.size W7 W) ∧ (L 0 = true → x0 = .bool true) ∧ (L 1 = true → x1 = .bool true) ∧ (L 2 = true → x2 = .agg #[.int .i64 n, .slice ra2 (rows.length + rows2.length) rc2, .slice ga gain.length gc]) ∧ (L 3 = true → x3 = .pointer (some ⟨w4.heap.size, 3, none⟩)) ∧ (L 4 = true → x4 = .slice pa PL.length pn) ∧ (L 5 = true → x5 = .bool true) ∧ (L 6 = true → x6 = .bool true) ∧ (L 7 = true → x7 = .bool true) ∧ (L 8 = true → x8 = .agg #[.int .i64 n, .slice ra2 (rows.length + rows2.length) rc2, .slice ga gain.length gc]) ∧ (L 9 = true → x9 = .pointer (some ⟨w4.heap.size, 3, none⟩)) ∧ (L 10 = true → x10 = .slice pa PL.length pn) ∧ (L 11 = true → IntsAt W x11 U) ∧ (L 12 = true → x12 = .agg #[.int .i64 n, .slice ra rows.length rc, .slice ga gain.length gc]) ∧ (L 13 = true → x13 = .pointer (some ⟨w4.heap.size, 3, none⟩)) ∧ (L 14 = true → x14 = .slice pa PL.length pn) ∧ (L 15 = true → IntsAt W x15 U) ∧ (L 16 = true → x16 = .bool true) ∧ (L 17 = true → x17 = .bool true) ∧ (L 18 = true → x18 = .bool true) | _ => False) [_, _, _, _, _, _, _, _, _, _, _, _, _, _, _, _, _, _, _] (by kernel_rfl) (by kernel_rfl) rfl (by simp only [puts, Act.put, List.setIfInBounds_toArray, List.set_cons_zero, List.set_cons_succ] <;> rfl) ?_ ?_ ?_
    · exact ⟨(Below.refl _ _).drew, (fun h => by cases h), (fun h => by cases h), (fun h => by cases h), (fun h => by cases h), (fun h => by cases h), (fun h => by cases h), (fun h => by cases h), (fun h => by cases h), (fun h => by cases h), (fun h => by cases h), (fun h => by cases h), (fun h => by cases h), (fun h => by cases h), (fun h => by cases h), (fun h => by cases h), (fun h => by cases h), (fun h => by cases h), (fun h => by cases h), (fun h => by cases h)⟩
    · refine ⟨?_, ?_, ?_, ?_, ?_, ?_, ?_, ?_, ?_, ?_, ?_, ?_, ?_, ?_, ?_, ?_, ?_, ?_, ?_, trivial⟩
      · intro L vs W hlen hL hD hI K hK
        obtain ⟨x0, x1, x2, x3, x4, x5, x6, x7, x8, x9, x10, x11, x12, x13, x14, x15, x16, x17, x18, rfl⟩ := len19 hlen
        have hG := hI.1
        replace hI := hI.2
        have f0 := hide hI.1
        replace hI := hI.2
        have f1 := hide hI.1
        replace hI := hI.2
        have f2 := hide hI.1
        replace hI := hI.2
        have f3 := hide hI.1
        replace hI := hI.2
        have f4 := hide hI.1
        replace hI := hI.2
        have f5 := hide hI.1
        replace hI := hI.2
        have f6 := hide hI.1
        replace hI := hI.2
        have f7 := hide hI.1
        replace hI := hI.2
        have f8 := hide hI.1
        replace hI := hI.2
        have f9 := hide hI.1
        replace hI := hI.2
        have f10 := hide hI.1
        replace hI := hI.2
        have f11 := hide hI.1
        replace hI := hI.2
        have f12 := hide hI.1
        replace hI := hI.2
        have f13 := hide hI.1
        replace hI := hI.2
        have f14 := hide hI.1
        replace hI := hI.2
        have f15 := hide hI.1
        replace hI := hI.2
        have f16 := hide hI.1
        replace hI := hI.2
        have f17 := hide hI.1
        replace hI := hI.2
        have f18 := hide hI
        clear hI
        have p0 := keep hG p0
        have p1 := keep hG p1
        have p2 := keep hG p2
        have q0 := keep hG q0
        have q1 := keep hG q1
        have q2 := keep hG q2
        have s3 := keep hG s3
        try simp only [puts, Act.put, List.setIfInBounds_toArray, List.set_cons_zero, List.set_cons_succ]
        try go_simp
        exact hK.out _ _ _ (by simp only [puts, Act.put, List.setIfInBounds_toArray, List.set_cons_zero, List.set_cons_succ] <;> rfl) ⟨hG, (fun _ => rfl), (fun h => f1.out h), (fun h => f2.out h), (fun h => f3.out h), (fun h => f4.out h), (fun h => f5.out h), (fun h => f6.out h), (fun h => f7.out h), (fun h => f8.out h), (fun h => f9.out h), (fun h => f10.out h), (fun h => f11.out h), (fun h => f12.out h), (fun h => f13.out h), (fun h => f14.out h), (fun h => f15.out h), (fun h => f16.out h), (fun h => f17.out h), (fun h => f18.out h)⟩
      · intro L vs W hlen hL hD hI K hK
        obtain ⟨x0, x1, x2, x3, x4, x5, x6, x7, x8, x9, x10, x11, x12, x13, x14, x15, x16, x17, x18, rfl⟩ := len19 hlen
        have hG := hI.1
        replace hI := hI.2
        have f0 := hide hI.1
        replace hI := hI.2
        have f1 := hide hI.1
        replace hI := hI.2
        have f2 := hide hI.1
        replace hI := hI.2
        have f3 := hide hI.1
        replace hI := hI.2
        have f4 := hide hI.1
        replace hI := hI.2
        have f5 := hide hI.1
        replace hI := hI.2
        have f6 := hide hI.1
        replace hI := hI.2
        have f7 := hide hI.1
        replace hI := hI.2
        have f8 := hide hI.1
        replace hI := hI.2
        have f9 := hide hI.1
        replace hI := hI.2
        have f10 := hide hI.1
        replace hI := hI.2
        have f11 := hide hI.1
        replace hI := hI.2
        have f12 := hide hI.1
        replace hI := hI.2
        have f13 := hide hI.1
        replace hI := hI.2
        have f14 := hide hI.1
        replace hI := hI.2
        have f15 := hide hI.1
        replace hI := hI.2
        have f16 := hide hI.1
        replace hI := hI.2
        have f17 := hide hI.1
        replace hI := hI.2
        have f18 := hide hI
        clear hI
        have p0 := keep hG p0
        have p1 := keep hG p1
        have p2 := keep hG p2
        have q0 := keep hG q0
        have q1 := keep hG q1
        have q2 := keep hG q2
        have s3 := keep hG s3
        obtain rfl := f0.out (hD.on 0 (by kernel_rfl))
        try simp only [puts, Act.put, List.setIfInBounds_toArray, List.set_cons_zero, List.set_cons_succ]
        try go_simp
        exact hK.out _ _ _ (by simp only [puts, Act.put, List.setIfInBounds_toArray, List.set_cons_zero, List.set_cons_succ] <;> rfl) ⟨hG, (fun h => f0.out h), (fun _ => rfl), (fun h => f2.out h), (fun h => f3.out h), (fun h => f4.out h), (fun h => f5.out h), (fun h => f6.out h), (fun h => f7.out h), (fun h => f8.out h), (fun h => f9.out h), (fun h => f10.out h), (fun h => f11.out h), (fun h => f12.out h), (fun h => f13.out h), (fun h => f14.out h), (fun h => f15.out h), (fun h => f16.out h), (fun h => f17.out h), (fun h => f18.out h)⟩
      · intro L vs W hlen hL hD hI K hK
        obtain ⟨x0, x1, x2, x3, x4, x5, x6, x7, x8, x9, x10, x11, x12, x13, x14, x15, x16, x17, x18, rfl⟩ := len19 hlen
        have hG := hI.1
        replace hI := hI.2
        have f0 := hide hI.1
        replace hI := hI.2
        have f1 := hide hI.1
        replace hI := hI.2
        have f2 := hide hI.1
        replace hI := hI.2
        have f3 := hide hI.1
        replace hI := hI.2
        have f4 := hide hI.1
        replace hI := hI.2
        have f5 := hide hI.1
        replace hI := hI.2
        have f6 := hide hI.1
        replace hI := hI.2
        have f7 := hide hI.1
        replace hI := hI.2
        have f8 := hide hI.1
        replace hI := hI.2
        have f9 := hide hI.1
        replace hI := hI.2
        have f10 := hide hI.1
        replace hI := hI.2
        have f11 := hide hI.1
        replace hI := hI.2
        have f12 := hide hI.1
        replace hI := hI.2
        have f13 := hide hI.1
        replace hI := hI.2
        have f14 := hide hI.1
        replace hI := hI.2
        have f15 := hide hI.1
        replace hI := hI.2
        have f16 := hide hI.1
        replace hI := hI.2
        have f17 := hide hI.1
        replace hI := hI.2
        have f18 := hide hI
        clear hI
        have p0 := keep hG p0
        have p1 := keep hG p1
        have p2 := keep hG p2
        have q0 := keep hG q0
        have q1 := keep hG q1
        have q2 := keep hG q2
        have s3 := keep hG s3
        obtain rfl := f1.out (hD.on 1 (by kernel_rfl))
        try simp only [puts, Act.put, List.setIfInBounds_toArray, List.set_cons_zero, List.set_cons_succ]
        try go_simp
        exact hK.out _ _ _ (by simp only [puts, Act.put, List.setIfInBounds_toArray, List.set_cons_zero, List.set_cons_succ] <;> rfl) ⟨hG, (fun h => f0.out h), (fun h => f1.out h), (fun _ => rfl), (fun h => f3.out h), (fun h => f4.out h), (fun h => f5.out h), (fun h => f6.out h), (fun h => f7.out h), (fun h => f8.out h), (fun h => f9.out h), (fun h => f10.out h), (fun h => f11.out h), (fun h => f12.out h), (fun h => f13.out h), (fun h => f14.out h), (fun h => f15.out h), (fun h => f16.out h), (fun h => f17.out h), (fun h => f18.out h)⟩
      · intro L vs W hlen hL hD hI K hK
        obtain ⟨x0, x1, x2, x3, x4, x5, x6, x7, x8, x9, x10, x11, x12, x13, x14, x15, x16, x17, x18, rfl⟩ := len19 hlen
        have hG := hI.1
        replace hI := hI.2
        have f0 := hide hI.1
        replace hI := hI.2
        have f1 := hide hI.1
        replace hI := hI.2
        have f2 := hide hI.1
        replace hI := hI.2
        have f3 := hide hI.1
        replace hI := hI.2
        have f4 := hide hI.1
        replace hI := hI.2
        have f5 := hide hI.1
        replace hI := hI.2
        have f6 := hide hI.1
        replace hI := hI.2
        have f7 := hide hI.1
        replace hI := hI.2
        have f8 := hide hI.1
        replace hI := hI.2
        have f9 := hide hI.1
        replace hI := hI.2
        have f10 := hide hI.1
        replace hI := hI.2
        have f11 := hide hI.1
        replace hI := hI.2
        have f12 := hide hI.1
        replace hI := hI.2
        have f13 := hide hI.1
        replace hI := hI.2
        have f14 := hide hI.1
        replace hI := hI.2
        have f15 := hide hI.1
        replace hI := hI.2
        have f16 := hide hI.1
        replace hI := hI.2
        have f17 := hide hI.1
        replace hI := hI.2
        have f18 := hide hI
        clear hI
        have p0 := keep hG p0
        have p1 := keep hG p1
        have p2 := keep hG p2
        have q0 := keep hG q0
        have q1 := keep hG q1
        have q2 := keep hG q2
        have s3 := keep hG s3
        obtain rfl := f1.out (hD.on 1 (by kernel_rfl))
        try simp only [puts, Act.put, List.setIfInBounds_toArray, List.set_cons_zero, List.set_cons_succ]
        try go_simp
        exact hK.out _ _ _ (by simp only [puts, Act.put, List.setIfInBounds_toArray, List.set_cons_zero, List.set_cons_succ] <;> rfl) ⟨hG, (fun h => f0.out h), (fun h => f1.out h), (fun h => f2.out h), (fun _ => rfl), (fun h => f4.out h), (fun h => f5.out h), (fun h => f6.out h), (fun h => f7.out h), (fun h => f8.out h), (fun h => f9.out h), (fun h => f10.out h), (fun h => f11.out h), (fun h => f12.out h), (fun h => f13.out h), (fun h => f14.out h), (fun h => f15.out h), (fun h => f16.out h), (fun h => f17.out h), (fun h => f18.out h)⟩
      · intro L vs W hlen hL hD hI K hK
        obtain ⟨x0, x1, x2, x3, x4, x5, x6, x7, x8, x9, x10, x11, x12, x13, x14, x15, x16, x17, x18, rfl⟩ := len19 hlen
        have hG := hI.1
        replace hI := hI.2
        have f0 := hide hI.1
        replace hI := hI.2
        have f1 := hide hI.1
        replace hI := hI.2
        have f2 := hide hI.1
        replace hI := hI.2
        have f3 := hide hI.1
        replace hI := hI.2
        have f4 := hide hI.1
        replace hI := hI.2
        have f5 := hide hI.1
        replace hI := hI.2
        have f6 := hide hI.1
        replace hI := hI.2
        have f7 := hide hI.1
        replace hI := hI.2
        have f8 := hide hI.1
        replace hI := hI.2
        have f9 := hide hI.1
        replace hI := hI.2
        have f10 := hide hI.1
        replace hI := hI.2
        have f11 := hide hI.1
        replace hI := hI.2
        have f12 := hide hI.1
        replace hI := hI.2
        have f13 := hide hI.1
        replace hI := hI.2
        have f14 := hide hI.1
        replace hI := hI.2
        have f15 := hide hI.1
        replace hI := hI.2
        have f16 := hide hI.1
        replace hI := hI.2
        have f17 := hide hI.1
        replace hI := hI.2
        have f18 := hide hI
        clear hI
        have p0 := keep hG p0
        have p1 := keep hG p1
        have p2 := keep hG p2
        have q0 := keep hG q0
        have q1 := keep hG q1
        have q2 := keep hG q2
        have s3 := keep hG s3
        obtain rfl := f1.out (hD.on 1 (by kernel_rfl))
        obtain rfl := f3.out (hD.on 3 (by kernel_rfl))
        try simp only [puts, Act.put, List.setIfInBounds_toArray, List.set_cons_zero, List.set_cons_succ]
        try go_simp
        exact hK.out _ _ _ (by simp only [puts, Act.put, List.setIfInBounds_toArray, List.set_cons_zero, List.set_cons_succ] <;> rfl) ⟨hG, (fun h => f0.out h), (fun h => f1.out h), (fun h => f2.out h), (fun h => f3.out h), (fun _ => rfl), (fun h => f5.out h), (fun h => f6.out h), (fun h => f7.out h), (fun h => f8.out h), (fun h => f9.out h), (fun h => f10.out h), (fun h => f11.out h), (fun h => f12.out h), (fun h => f13.out h), (fun h => f14.out h), (fun h => f15.out h), (fun h => f16.out h), (fun h => f17.out h), (fun h => f18.out h)⟩
      · intro L vs W hlen hL hD hI K hK
        obtain ⟨x0, x1, x2, x3, x4, x5, x6, x7, x8, x9, x10, x11, x12, x13, x14, x15, x16, x17, x18, rfl⟩ := len19 hlen
        have hG := hI.1
        replace hI := hI.2
        have f0 := hide hI.1
        replace hI := hI.2
        have f1 := hide hI.1
        replace hI := hI.2
        have f2 := hide hI.1
        replace hI := hI.2
        have f3 := hide hI.1
        replace hI := hI.2
        have f4 := hide hI.1
        replace hI := hI.2
        have f5 := hide hI.1
        replace hI := hI.2
        have f6 := hide hI.1
        replace hI := hI.2
        have f7 := hide hI.1
        replace hI := hI.2
        have f8 := hide hI.1
        replace hI := hI.2
        have f9 := hide hI.1
        replace hI := hI.2
        have f10 := hide hI.1
        replace hI := hI.2
        have f11 := hide hI.1
        replace hI := hI.2
        have f12 := hide hI.1
        replace hI := hI.2
        have f13 := hide hI.1
        replace hI := hI.2
        have f14 := hide hI.1
        replace hI := hI.2
        have f15 := hide hI.1
        replace hI := hI.2
        have f16 := hide hI.1
        replace hI := hI.2
        have f17 := hide hI.1
        replace hI := hI.2
        have f18 := hide hI
        clear hI
        have p0 := keep hG p0
        have p1 := keep hG p1
        have p2 := keep hG p2
        have q0 := keep hG q0
        have q1 := keep hG q1
        have q2 := keep hG q2
        have s3 := keep hG s3
        obtain rfl := f1.out (hD.on 1 (by kernel_rfl))
        obtain rfl := f2.out (hD.on 2 (by kernel_rfl))
        obtain rfl := f4.out (hD.on 4 (by kernel_rfl))
        try simp only [puts, Act.put, List.setIfInBounds_toArray, List.set_cons_zero, List.set_cons_succ]
        try go_simp
        refine (refutesp_any ⟨n, rows ++ rows2, gain⟩ _ _ PL _ W (RowsAt.below hG hrQ) (hg7.below hG) (hp7.keeps (keeps_of_below hG))).mono ?_
        rw [HMR2.out.1]
        rintro e W' ⟨rfl, hbb⟩
        try go_simp
        have hb := hbb
        exact hK.out _ _ _ (by simp only [puts, Act.put, List.setIfInBounds_toArray, List.set_cons_zero, List.set_cons_succ] <;> rfl) ⟨below2 hG hb, (fun h => f0.out h), (fun h => f1.out h), (fun h => f2.out h), (fun h => f3.out h), (fun h => f4.out h), (fun _ => rfl), (fun h => f6.out h), (fun h => f7.out h), (fun h => f8.out h), (fun h => f9.out h), (fun h => f10.out h), (fun h => (fun h => IntsAt.below hb h) (f11.out h)), (fun h => f12.out h), (fun h => f13.out h), (fun h => f14.out h), (fun h => (fun h => IntsAt.below hb h) (f15.out h)), (fun h => f16.out h), (fun h => f17.out h), (fun h => f18.out h)⟩
      · intro L vs W hlen hL hD hI K hK
        obtain ⟨x0, x1, x2, x3, x4, x5, x6, x7, x8, x9, x10, x11, x12, x13, x14, x15, x16, x17, x18, rfl⟩ := len19 hlen
        have hG := hI.1
        replace hI := hI.2
        have f0 := hide hI.1
        replace hI := hI.2
        have f1 := hide hI.1
        replace hI := hI.2
        have f2 := hide hI.1
        replace hI := hI.2
        have f3 := hide hI.1
        replace hI := hI.2
        have f4 := hide hI.1
        replace hI := hI.2
        have f5 := hide hI.1
        replace hI := hI.2
        have f6 := hide hI.1
        replace hI := hI.2
        have f7 := hide hI.1
        replace hI := hI.2
        have f8 := hide hI.1
        replace hI := hI.2
        have f9 := hide hI.1
        replace hI := hI.2
        have f10 := hide hI.1
        replace hI := hI.2
        have f11 := hide hI.1
        replace hI := hI.2
        have f12 := hide hI.1
        replace hI := hI.2
        have f13 := hide hI.1
        replace hI := hI.2
        have f14 := hide hI.1
        replace hI := hI.2
        have f15 := hide hI.1
        replace hI := hI.2
        have f16 := hide hI.1
        replace hI := hI.2
        have f17 := hide hI.1
        replace hI := hI.2
        have f18 := hide hI
        clear hI
        have p0 := keep hG p0
        have p1 := keep hG p1
        have p2 := keep hG p2
        have q0 := keep hG q0
        have q1 := keep hG q1
        have q2 := keep hG q2
        have s3 := keep hG s3
        obtain rfl := f1.out (hD.on 1 (by kernel_rfl))
        obtain rfl := f5.out (hD.on 5 (by kernel_rfl))
        try simp only [puts, Act.put, List.setIfInBounds_toArray, List.set_cons_zero, List.set_cons_succ]
        try go_simp
        exact hK.out _ _ _ (by simp only [puts, Act.put, List.setIfInBounds_toArray, List.set_cons_zero, List.set_cons_succ] <;> rfl) ⟨hG, (fun h => f0.out h), (fun h => f1.out h), (fun h => f2.out h), (fun h => f3.out h), (fun h => f4.out h), (fun h => f5.out h), (fun _ => rfl), (fun h => f7.out h), (fun h => f8.out h), (fun h => f9.out h), (fun h => f10.out h), (fun h => f11.out h), (fun h => f12.out h), (fun h => f13.out h), (fun h => f14.out h), (fun h => f15.out h), (fun h => f16.out h), (fun h => f17.out h), (fun h => f18.out h)⟩
      · intro L vs W hlen hL hD hI K hK
        obtain ⟨x0, x1, x2, x3, x4, x5, x6, x7, x8, x9, x10, x11, x12, x13, x14, x15, x16, x17, x18, rfl⟩ := len19 hlen
        have hG := hI.1
        replace hI := hI.2
        have f0 := hide hI.1
        replace hI := hI.2
        have f1 := hide hI.1
        replace hI := hI.2
        have f2 := hide hI.1
        replace hI := hI.2
        have f3 := hide hI.1
        replace hI := hI.2
        have f4 := hide hI.1
        replace hI := hI.2
        have f5 := hide hI.1
        replace hI := hI.2
        have f6 := hide hI.1
        replace hI := hI.2
        have f7 := hide hI.1
        replace hI := hI.2
        have f8 := hide hI.1
        replace hI := hI.2
        have f9 := hide hI.1
        replace hI := hI.2
        have f10 := hide hI.1
        replace hI := hI.2
        have f11 := hide hI.1
        replace hI := hI.2
        have f12 := hide hI.1
        replace hI := hI.2
        have f13 := hide hI.1
        replace hI := hI.2
        have f14 := hide hI.1
        replace hI := hI.2
        have f15 := hide hI.1
        replace hI := hI.2
        have f16 := hide hI.1
        replace hI := hI.2
        have f17 := hide hI.1
        replace hI := hI.2
        have f18 := hide hI
        clear hI
        have p0 := keep hG p0
        have p1 := keep hG p1
        have p2 := keep hG p2
        have q0 := keep hG q0
        have q1 := keep hG q1
        have q2 := keep hG q2
        have s3 := keep hG s3
        obtain rfl := f6.out (hD.on 6 (by kernel_rfl))
        try simp only [puts, Act.put, List.setIfInBounds_toArray, List.set_cons_zero, List.set_cons_succ]
        try go_simp
        exact hK.out _ _ _ (by simp only [puts, Act.put, List.setIfInBounds_toArray, List.set_cons_zero, List.set_cons_succ] <;> rfl) ⟨hG, (fun h => f0.out h), (fun h => f1.out h), (fun h => f2.out h), (fun h => f3.out h), (fun h => f4.out h), (fun h => f5.out h), (fun h => f6.out h), (fun _ => rfl), (fun h => f8.out h), (fun h => f9.out h), (fun h => f10.out h), (fun h => f11.out h), (fun h => f12.out h), (fun h => f13.out h), (fun h => f14.out h), (fun h => f15.out h), (fun h => f16.out h), (fun h => f17.out h), (fun h => f18.out h)⟩
      · intro L vs W hlen hL hD hI K hK
        obtain ⟨x0, x1, x2, x3, x4, x5, x6, x7, x8, x9, x10, x11, x12, x13, x14, x15, x16, x17, x18, rfl⟩ := len19 hlen
        have hG := hI.1
        replace hI := hI.2
        have f0 := hide hI.1
        replace hI := hI.2
        have f1 := hide hI.1
        replace hI := hI.2
        have f2 := hide hI.1
        replace hI := hI.2
        have f3 := hide hI.1
        replace hI := hI.2
        have f4 := hide hI.1
        replace hI := hI.2
        have f5 := hide hI.1
        replace hI := hI.2
        have f6 := hide hI.1
        replace hI := hI.2
        have f7 := hide hI.1
        replace hI := hI.2
        have f8 := hide hI.1
        replace hI := hI.2
        have f9 := hide hI.1
        replace hI := hI.2
        have f10 := hide hI.1
        replace hI := hI.2
        have f11 := hide hI.1
        replace hI := hI.2
        have f12 := hide hI.1
        replace hI := hI.2
        have f13 := hide hI.1
        replace hI := hI.2
        have f14 := hide hI.1
        replace hI := hI.2
        have f15 := hide hI.1
        replace hI := hI.2
        have f16 := hide hI.1
        replace hI := hI.2
        have f17 := hide hI.1
        replace hI := hI.2
        have f18 := hide hI
        clear hI
        have p0 := keep hG p0
        have p1 := keep hG p1
        have p2 := keep hG p2
        have q0 := keep hG q0
        have q1 := keep hG q1
        have q2 := keep hG q2
        have s3 := keep hG s3
        obtain rfl := f7.out (hD.on 7 (by kernel_rfl))
        try simp only [puts, Act.put, List.setIfInBounds_toArray, List.set_cons_zero, List.set_cons_succ]
        try go_simp
        exact hK.out _ _ _ (by simp only [puts, Act.put, List.setIfInBounds_toArray, List.set_cons_zero, List.set_cons_succ] <;> rfl) ⟨hG, (fun h => f0.out h), (fun h => f1.out h), (fun h => f2.out h), (fun h => f3.out h), (fun h => f4.out h), (fun h => f5.out h), (fun h => f6.out h), (fun h => f7.out h), (fun _ => rfl), (fun h => f9.out h), (fun h => f10.out h), (fun h => f11.out h), (fun h => f12.out h), (fun h => f13.out h), (fun h => f14.out h), (fun h => f15.out h), (fun h => f16.out h), (fun h => f17.out h), (fun h => f18.out h)⟩
      · intro L vs W hlen hL hD hI K hK
        obtain ⟨x0, x1, x2, x3, x4, x5, x6, x7, x8, x9, x10, x11, x12, x13, x14, x15, x16, x17, x18, rfl⟩ := len19 hlen
        have hG := hI.1
        replace hI := hI.2
        have f0 := hide hI.1
        replace hI := hI.2
        have f1 := hide hI.1
        replace hI := hI.2
        have f2 := hide hI.1
        replace hI := hI.2
        have f3 := hide hI.1
        replace hI := hI.2
        have f4 := hide hI.1
        replace hI := hI.2
        have f5 := hide hI.1
        replace hI := hI.2
        have f6 := hide hI.1
        replace hI := hI.2
        have f7 := hide hI.1
        replace hI := hI.2
        have f8 := hide hI.1
        replace hI := hI.2
        have f9 := hide hI.1
        replace hI := hI.2
        have f10 := hide hI.1
        replace hI := hI.2
        have f11 := hide hI.1
        replace hI := hI.2
        have f12 := hide hI.1
        replace hI := hI.2
        have f13 := hide hI.1
        replace hI := hI.2
        have f14 := hide hI.1
        replace hI := hI.2
        have f15 := hide hI.1
        replace hI := hI.2
        have f16 := hide hI.1
        replace hI := hI.2
        have f17 := hide hI.1
        replace hI := hI.2
        have f18 := hide hI
        clear hI
        have p0 := keep hG p0
        have p1 := keep hG p1
        have p2 := keep hG p2
        have q0 := keep hG q0
        have q1 := keep hG q1
        have q2 := keep hG q2
        have s3 := keep hG s3
        obtain rfl := f7.out (hD.on 7 (by kernel_rfl))
        try simp only [puts, Act.put, List.setIfInBounds_toArray, List.set_cons_zero, List.set_cons_succ]
        try go_simp
        exact hK.out _ _ _ (by simp only [puts, Act.put, List.setIfInBounds_toArray, List.set_cons_zero, List.set_cons_succ] <;> rfl) ⟨hG, (fun h => f0.out h), (fun h => f1.out h), (fun h => f2.out h), (fun h => f3.out h), (fun h => f4.out h), (fun h => f5.out h), (fun h => f6.out h), (fun h => f7.out h), (fun h => f8.out h), (fun _ => rfl), (fun h => f10.out h), (fun h => f11.out h), (fun h => f12.out h), (fun h => f13.out h), (fun h => f14.out h), (fun h => f15.out h), (fun h => f16.out h), (fun h => f17.out h), (fun h => f18.out h)⟩
      · intro L vs W hlen hL hD hI K hK
        obtain ⟨x0, x1, x2, x3, x4, x5, x6, x7, x8, x9, x10, x11, x12, x13, x14, x15, x16, x17, x18, rfl⟩ := len19 hlen
        have hG := hI.1
        replace hI := hI.2
        have f0 := hide hI.1
        replace hI := hI.2
        have f1 := hide hI.1
        replace hI := hI.2
        have f2 := hide hI.1
        replace hI := hI.2
        have f3 := hide hI.1
        replace hI := hI.2
        have f4 := hide hI.1
        replace hI := hI.2
        have f5 := hide hI.1
        replace hI := hI.2
        have f6 := hide hI.1
        replace hI := hI.2
        have f7 := hide hI.1
        replace hI := hI.2
        have f8 := hide hI.1
        replace hI := hI.2
        have f9 := hide hI.1
        replace hI := hI.2
        have f10 := hide hI.1
        replace hI := hI.2
        have f11 := hide hI.1
        replace hI := hI.2
        have f12 := hide hI.1
        replace hI := hI.2
        have f13 := hide hI.1
        replace hI := hI.2
        have f14 := hide hI.1
        replace hI := hI.2
        have f15 := hide hI.1
        replace hI := hI.2
        have f16 := hide hI.1
        replace hI := hI.2
        have f17 := hide hI.1
        replace hI := hI.2
        have f18 := hide hI
        clear hI
        have p0 := keep hG p0
        have p1 := keep hG p1
        have p2 := keep hG p2
        have q0 := keep hG q0
        have q1 := keep hG q1
        have q2 := keep hG q2
        have s3 := keep hG s3
        obtain rfl := f7.out (hD.on 7 (by kernel_rfl))
        obtain rfl := f9.out (hD.on 9 (by kernel_rfl))
        try simp only [puts, Act.put, List.setIfInBounds_toArray, List.set_cons_zero, List.set_cons_succ]
        try go_simp
        exact hK.out _ _ _ (by simp only [puts, Act.put, List.setIfInBounds_toArray, List.set_cons_zero, List.set_cons_succ] <;> rfl) ⟨hG, (fun h => f0.out h), (fun h => f1.out h), (fun h => f2.out h), (fun h => f3.out h), (fun h => f4.out h), (fun h => f5.out h), (fun h => f6.out h), (fun h => f7.out h), (fun h => f8.out h), (fun h => f9.out h), (fun _ => rfl), (fun h => f11.out h), (fun h => f12.out h), (fun h => f13.out h), (fun h => f14.out h), (fun h => f15.out h), (fun h => f16.out h), (fun h => f17.out h), (fun h => f18.out h)⟩
      · intro L vs W hlen hL hD hI K hK
        obtain ⟨x0, x1, x2, x3, x4, x5, x6, x7, x8, x9, x10, x11, x12, x13, x14, x15, x16, x17, x18, rfl⟩ := len19 hlen
        have hG := hI.1
        replace hI := hI.2
        have f0 := hide hI.1
        replace hI := hI.2
        have f1 := hide hI.1
        replace hI := hI.2
        have f2 := hide hI.1
        replace hI := hI.2
        have f3 := hide hI.1
        replace hI := hI.2
        have f4 := hide hI.1
        replace hI := hI.2
        have f5 := hide hI.1
        replace hI := hI.2
        have f6 := hide hI.1
        replace hI := hI.2
        have f7 := hide hI.1
        replace hI := hI.2
        have f8 := hide hI.1
        replace hI := hI.2
        have f9 := hide hI.1
        replace hI := hI.2
        have f10 := hide hI.1
        replace hI := hI.2
        have f11 := hide hI.1
        replace hI := hI.2
        have f12 := hide hI.1
        replace hI := hI.2
        have f13 := hide hI.1
        replace hI := hI.2
        have f14 := hide hI.1
        replace hI := hI.2
        have f15 := hide hI.1
        replace hI := hI.2
        have f16 := hide hI.1
        replace hI := hI.2
        have f17 := hide hI.1
        replace hI := hI.2
        have f18 := hide hI
        clear hI
        have p0 := keep hG p0
        have p1 := keep hG p1
        have p2 := keep hG p2
        have q0 := keep hG q0
        have q1 := keep hG q1
        have q2 := keep hG q2
        have s3 := keep hG s3
        obtain rfl := f7.out (hD.on 7 (by kernel_rfl))
        obtain rfl := f8.out (hD.on 8 (by kernel_rfl))
        obtain rfl := f10.out (hD.on 10 (by kernel_rfl))
        try simp only [puts, Act.put, List.setIfInBounds_toArray, List.set_cons_zero, List.set_cons_succ]
        try go_simp
        refine (rowsp_any ⟨n, rows ++ rows2, gain⟩ _ _ PL _ W (RowsAt.below hG hrQ) (hg7.below hG) (hp7.keeps (keeps_of_below hG))).mono ?_
        rw [HMR2.out.2]
        rintro e W' ⟨vv, rfl, hvv, hbb⟩
        try go_simp
        have hb := hbb
        exact hK.out _ _ _ (by simp only [puts, Act.put, List.setIfInBounds_toArray, List.set_cons_zero, List.set_cons_succ] <;> rfl) ⟨below2 hG hb, (fun h => f0.out h), (fun h => f1.out h), (fun h => f2.out h), (fun h => f3.out h), (fun h => f4.out h), (fun h => f5.out h), (fun h => f6.out h), (fun h => f7.out h), (fun h => f8.out h), (fun h => f9.out h), (fun h => f10.out h), (fun _ => hvv.keeps (keeps_frm _ _)), (fun h => f12.out h), (fun h => f13.out h), (fun h => f14.out h), (fun h => (fun h => IntsAt.below hb h) (f15.out h)), (fun h => f16.out h), (fun h => f17.out h), (fun h => f18.out h)⟩
      · intro L vs W hlen hL hD hI K hK
        obtain ⟨x0, x1, x2, x3, x4, x5, x6, x7, x8, x9, x10, x11, x12, x13, x14, x15, x16, x17, x18, rfl⟩ := len19 hlen
        have hG := hI.1
        replace hI := hI.2
        have f0 := hide hI.1
        replace hI := hI.2
        have f1 := hide hI.1
        replace hI := hI.2
        have f2 := hide hI.1
        replace hI := hI.2
        have f3 := hide hI.1
        replace hI := hI.2
        have f4 := hide hI.1
        replace hI := hI.2
        have f5 := hide hI.1
        replace hI := hI.2
        have f6 := hide hI.1
        replace hI := hI.2
        have f7 := hide hI.1
        replace hI := hI.2
        have f8 := hide hI.1
        replace hI := hI.2
        have f9 := hide hI.1
        replace hI := hI.2
        have f10 := hide hI.1
        replace hI := hI.2
        have f11 := hide hI.1
        replace hI := hI.2
        have f12 := hide hI.1
        replace hI := hI.2
        have f13 := hide hI.1
        replace hI := hI.2
        have f14 := hide hI.1
        replace hI := hI.2
        have f15 := hide hI.1
        replace hI := hI.2
        have f16 := hide hI.1
        replace hI := hI.2
        have f17 := hide hI.1
        replace hI := hI.2
        have f18 := hide hI
        clear hI
        have p0 := keep hG p0
        have p1 := keep hG p1
        have p2 := keep hG p2
        have q0 := keep hG q0
        have q1 := keep hG q1
        have q2 := keep hG q2
        have s3 := keep hG s3
        obtain rfl := f7.out (hD.on 7 (by kernel_rfl))
        try simp only [puts, Act.put, List.setIfInBounds_toArray, List.set_cons_zero, List.set_cons_succ]
        try go_simp
        exact hK.out _ _ _ (by simp only [puts, Act.put, List.setIfInBounds_toArray, List.set_cons_zero, List.set_cons_succ] <;> rfl) ⟨hG, (fun h => f0.out h), (fun h => f1.out h), (fun h => f2.out h), (fun h => f3.out h), (fun h => f4.out h), (fun h => f5.out h), (fun h => f6.out h), (fun h => f7.out h), (fun h => f8.out h), (fun h => f9.out h), (fun h => f10.out h), (fun h => f11.out h), (fun _ => rfl), (fun h => f13.out h), (fun h => f14.out h), (fun h => f15.out h), (fun h => f16.out h), (fun h => f17.out h), (fun h => f18.out h)⟩
      · intro L vs W hlen hL hD hI K hK
        obtain ⟨x0, x1, x2, x3, x4, x5, x6, x7, x8, x9, x10, x11, x12, x13, x14, x15, x16, x17, x18, rfl⟩ := len19 hlen
        have hG := hI.1
        replace hI := hI.2
        have f0 := hide hI.1
        replace hI := hI.2
        have f1 := hide hI.1
        replace hI := hI.2
        have f2 := hide hI.1
        replace hI := hI.2
        have f3 := hide hI.1
        replace hI := hI.2
        have f4 := hide hI.1
        replace hI := hI.2
        have f5 := hide hI.1
        replace hI := hI.2
        have f6 := hide hI.1
        replace hI := hI.2
        have f7 := hide hI.1
        replace hI := hI.2
        have f8 := hide hI.1
        replace hI := hI.2
        have f9 := hide hI.1
        replace hI := hI.2
        have f10 := hide hI.1
        replace hI := hI.2
        have f11 := hide hI.1
        replace hI := hI.2
        have f12 := hide hI.1
        replace hI := hI.2
        have f13 := hide hI.1
        replace hI := hI.2
        have f14 := hide hI.1
        replace hI := hI.2
        have f15 := hide hI.1
        replace hI := hI.2
        have f16 := hide hI.1
        replace hI := hI.2
        have f17 := hide hI.1
        replace hI := hI.2
        have f18 := hide hI
        clear hI
        have p0 := keep hG p0
        have p1 := keep hG p1
        have p2 := keep hG p2
        have q0 := keep hG q0
        have q1 := keep hG q1
        have q2 := keep hG q2
        have s3 := keep hG s3
        obtain rfl := f7.out (hD.on 7 (by kernel_rfl))
        try simp only [puts, Act.put, List.setIfInBounds_toArray, List.set_cons_zero, List.set_cons_succ]
        try go_simp
        exact hK.out _ _ _ (by simp only [puts, Act.put, List.setIfInBounds_toArray, List.set_cons_zero, List.set_cons_succ] <;> rfl) ⟨hG, (fun h => f0.out h), (fun h => f1.out h), (fun h => f2.out h), (fun h => f3.out h), (fun h => f4.out h), (fun h => f5.out h), (fun h => f6.out h), (fun h => f7.out h), (fun h => f8.out h), (fun h => f9.out h), (fun h => f10.out h), (fun h => f11.out h), (fun h => f12.out h), (fun _ => rfl), (fun h => f14.out h), (fun h => f15.out h), (fun h => f16.out h), (fun h => f17.out h), (fun h => f18.out h)⟩
      · intro L vs W hlen hL hD hI K hK
        obtain ⟨x0, x1, x2, x3, x4, x5, x6, x7, x8, x9, x10, x11, x12, x13, x14, x15, x16, x17, x18, rfl⟩ := len19 hlen
        have hG := hI.1
        replace hI := hI.2
        have f0 := hide hI.1
        replace hI := hI.2
        have f1 := hide hI.1
        replace hI := hI.2
        have f2 := hide hI.1
        replace hI := hI.2
        have f3 := hide hI.1
        replace hI := hI.2
        have f4 := hide hI.1
        replace hI := hI.2
        have f5 := hide hI.1
        replace hI := hI.2
        have f6 := hide hI.1
        replace hI := hI.2
        have f7 := hide hI.1
        replace hI := hI.2
        have f8 := hide hI.1
        replace hI := hI.2
        have f9 := hide hI.1
        replace hI := hI.2
        have f10 := hide hI.1
        replace hI := hI.2
        have f11 := hide hI.1
        replace hI := hI.2
        have f12 := hide hI.1
        replace hI := hI.2
        have f13 := hide hI.1
        replace hI := hI.2
        have f14 := hide hI.1
        replace hI := hI.2
        have f15 := hide hI.1
        replace hI := hI.2
        have f16 := hide hI.1
        replace hI := hI.2
        have f17 := hide hI.1
        replace hI := hI.2
        have f18 := hide hI
        clear hI
        have p0 := keep hG p0
        have p1 := keep hG p1
        have p2 := keep hG p2
        have q0 := keep hG q0
        have q1 := keep hG q1
        have q2 := keep hG q2
        have s3 := keep hG s3
        obtain rfl := f7.out (hD.on 7 (by kernel_rfl))
        obtain rfl := f13.out (hD.on 13 (by kernel_rfl))
        try simp only [puts, Act.put, List.setIfInBounds_toArray, List.set_cons_zero, List.set_cons_succ]
        try go_simp
        exact hK.out _ _ _ (by simp only [puts, Act.put, List.setIfInBounds_toArray, List.set_cons_zero, List.set_cons_succ] <;> rfl) ⟨hG, (fun h => f0.out h), (fun h => f1.out h), (fun h => f2.out h), (fun h => f3.out h), (fun h => f4.out h), (fun h => f5.out h), (fun h => f6.out h), (fun h => f7.out h), (fun h => f8.out h), (fun h => f9.out h), (fun h => f10.out h), (fun h => f11.out h), (fun h => f12.out h), (fun h => f13.out h), (fun _ => rfl), (fun h => f15.out h), (fun h => f16.out h), (fun h => f17.out h), (fun h => f18.out h)⟩
      · intro L vs W hlen hL hD hI K hK
        obtain ⟨x0, x1, x2, x3, x4, x5, x6, x7, x8, x9, x10, x11, x12, x13, x14, x15, x16, x17, x18, rfl⟩ := len19 hlen
        have hG := hI.1
        replace hI := hI.2
        have f0 := hide hI.1
        replace hI := hI.2
        have f1 := hide hI.1
        replace hI := hI.2
        have f2 := hide hI.1
        replace hI := hI.2
        have f3 := hide hI.1
        replace hI := hI.2
        have f4 := hide hI.1
        replace hI := hI.2
        have f5 := hide hI.1
        replace hI := hI.2
        have f6 := hide hI.1
        replace hI := hI.2
        have f7 := hide hI.1
        replace hI := hI.2
        have f8 := hide hI.1
        replace hI := hI.2
        have f9 := hide hI.1
        replace hI := hI.2
        have f10 := hide hI.1
        replace hI := hI.2
        have f11 := hide hI.1
        replace hI := hI.2
        have f12 := hide hI.1
        replace hI := hI.2
        have f13 := hide hI.1
        replace hI := hI.2
        have f14 := hide hI.1
        replace hI := hI.2
        have f15 := hide hI.1
        replace hI := hI.2
        have f16 := hide hI.1
        replace hI := hI.2
        have f17 := hide hI.1
        replace hI := hI.2
        have f18 := hide hI
        clear hI
        have p0 := keep hG p0
        have p1 := keep hG p1
        have p2 := keep hG p2
        have q0 := keep hG q0
        have q1 := keep hG q1
        have q2 := keep hG q2
        have s3 := keep hG s3
        obtain rfl := f7.out (hD.on 7 (by kernel_rfl))
        obtain rfl := f12.out (hD.on 12 (by kernel_rfl))
        obtain rfl := f14.out (hD.on 14 (by kernel_rfl))
        try simp only [puts, Act.put, List.setIfInBounds_toArray, List.set_cons_zero, List.set_cons_succ]
        try go_simp
        refine (rowsp_any ⟨n, rows, gain⟩ _ _ PL _ W (hr7.below hG) (hg7.below hG) (hp7.keeps (keeps_of_below hG))).mono ?_
        rw [HU.out]
        rintro e W' ⟨vv, rfl, hvv, hbb⟩
        try go_simp
        have hb := hbb
        exact hK.out _ _ _ (by simp only [puts, Act.put, List.setIfInBounds_toArray, List.set_cons_zero, List.set_cons_succ] <;> rfl) ⟨below2 hG hb, (fun h => f0.out h), (fun h => f1.out h), (fun h => f2.out h), (fun h => f3.out h), (fun h => f4.out h), (fun h => f5.out h), (fun h => f6.out h), (fun h => f7.out h), (fun h => f8.out h), (fun h => f9.out h), (fun h => f10.out h), (fun h => (fun h => IntsAt.below hb h) (f11.out h)), (fun h => f12.out h), (fun h => f13.out h), (fun h => f14.out h), (fun _ => hvv.keeps (keeps_frm _ _)), (fun h => f16.out h), (fun h => f17.out h), (fun h => f18.out h)⟩
      · intro L vs W hlen hL hD hI K hK
        obtain ⟨x0, x1, x2, x3, x4, x5, x6, x7, x8, x9, x10, x11, x12, x13, x14, x15, x16, x17, x18, rfl⟩ := len19 hlen
        have hG := hI.1
        replace hI := hI.2
        have f0 := hide hI.1
        replace hI := hI.2
        have f1 := hide hI.1
        replace hI := hI.2
        have f2 := hide hI.1
        replace hI := hI.2
        have f3 := hide hI.1
        replace hI := hI.2
        have f4 := hide hI.1
        replace hI := hI.2
        have f5 := hide hI.1
        replace hI := hI.2
        have f6 := hide hI.1
        replace hI := hI.2
        have f7 := hide hI.1
        replace hI := hI.2
        have f8 := hide hI.1
        replace hI := hI.2
        have f9 := hide hI.1
        replace hI := hI.2
        have f10 := hide hI.1
        replace hI := hI.2
        have f11 := hide hI.1
        replace hI := hI.2
        have f12 := hide hI.1
        replace hI := hI.2
        have f13 := hide hI.1
        replace hI := hI.2
        have f14 := hide hI.1
        replace hI := hI.2
        have f15 := hide hI.1
        replace hI := hI.2
        have f16 := hide hI.1
        replace hI := hI.2
        have f17 := hide hI.1
        replace hI := hI.2
        have f18 := hide hI
        clear hI
        have p0 := keep hG p0
        have p1 := keep hG p1
        have p2 := keep hG p2
        have q0 := keep hG q0
        have q1 := keep hG q1
        have q2 := keep hG q2
        have s3 := keep hG s3
        obtain rfl := f7.out (hD.on 7 (by kernel_rfl))
        have g11 := f11.out (hD.on 11 (by kernel_rfl))
        have g15 := f15.out (hD.on 15 (by kernel_rfl))
        try simp only [puts, Act.put, List.setIfInBounds_toArray, List.set_cons_zero, List.set_cons_succ]
        try go_simp
        refine (ints_any U U _ _ W g11 g15).mono ?_
        rw [HUU.out]
        rintro e W' ⟨rfl, hbb⟩
        try go_simp
        have hb := hbb
        exact hK.out _ _ _ (by simp only [puts, Act.put, List.setIfInBounds_toArray, List.set_cons_zero, List.set_cons_succ] <;> rfl) ⟨below2 hG hb, (fun h => f0.out h), (fun h => f1.out h), (fun h => f2.out h), (fun h => f3.out h), (fun h => f4.out h), (fun h => f5.out h), (fun h => f6.out h), (fun h => f7.out h), (fun h => f8.out h), (fun h => f9.out h), (fun h => f10.out h), (fun h => (fun h => IntsAt.below hb h) (f11.out h)), (fun h => f12.out h), (fun h => f13.out h), (fun h => f14.out h), (fun h => (fun h => IntsAt.below hb h) (f15.out h)), (fun _ => rfl), (fun h => f17.out h), (fun h => f18.out h)⟩
      · intro L vs W hlen hL hD hI K hK
        obtain ⟨x0, x1, x2, x3, x4, x5, x6, x7, x8, x9, x10, x11, x12, x13, x14, x15, x16, x17, x18, rfl⟩ := len19 hlen
        have hG := hI.1
        replace hI := hI.2
        have f0 := hide hI.1
        replace hI := hI.2
        have f1 := hide hI.1
        replace hI := hI.2
        have f2 := hide hI.1
        replace hI := hI.2
        have f3 := hide hI.1
        replace hI := hI.2
        have f4 := hide hI.1
        replace hI := hI.2
        have f5 := hide hI.1
        replace hI := hI.2
        have f6 := hide hI.1
        replace hI := hI.2
        have f7 := hide hI.1
        replace hI := hI.2
        have f8 := hide hI.1
        replace hI := hI.2
        have f9 := hide hI.1
        replace hI := hI.2
        have f10 := hide hI.1
        replace hI := hI.2
        have f11 := hide hI.1
        replace hI := hI.2
        have f12 := hide hI.1
        replace hI := hI.2
        have f13 := hide hI.1
        replace hI := hI.2
        have f14 := hide hI.1
        replace hI := hI.2
        have f15 := hide hI.1
        replace hI := hI.2
        have f16 := hide hI.1
        replace hI := hI.2
        have f17 := hide hI.1
        replace hI := hI.2
        have f18 := hide hI
        clear hI
        have p0 := keep hG p0
        have p1 := keep hG p1
        have p2 := keep hG p2
        have q0 := keep hG q0
        have q1 := keep hG q1
        have q2 := keep hG q2
        have s3 := keep hG s3
        obtain rfl := f7.out (hD.on 7 (by kernel_rfl))
        obtain rfl := f16.out (hD.on 16 (by kernel_rfl))
        try simp only [puts, Act.put, List.setIfInBounds_toArray, List.set_cons_zero, List.set_cons_succ]
        try go_simp
        exact hK.out _ _ _ (by simp only [puts, Act.put, List.setIfInBounds_toArray, List.set_cons_zero, List.set_cons_succ] <;> rfl) ⟨hG, (fun h => f0.out h), (fun h => f1.out h), (fun h => f2.out h), (fun h => f3.out h), (fun h => f4.out h), (fun h => f5.out h), (fun h => f6.out h), (fun h => f7.out h), (fun h => f8.out h), (fun h => f9.out h), (fun h => f10.out h), (fun h => f11.out h), (fun h => f12.out h), (fun h => f13.out h), (fun h => f14.out h), (fun h => f15.out h), (fun h => f16.out h), (fun _ => rfl), (fun h => f18.out h)⟩
      · intro L vs W hlen hL hD hI K hK
        obtain ⟨x0, x1, x2, x3, x4, x5, x6, x7, x8, x9, x10, x11, x12, x13, x14, x15, x16, x17, x18, rfl⟩ := len19 hlen
        have hG := hI.1
        replace hI := hI.2
        have f0 := hide hI.1
        replace hI := hI.2
        have f1 := hide hI.1
        replace hI := hI.2
        have f2 := hide hI.1
        replace hI := hI.2
        have f3 := hide hI.1
        replace hI := hI.2
        have f4 := hide hI.1
        replace hI := hI.2
        have f5 := hide hI.1
        replace hI := hI.2
        have f6 := hide hI.1
        replace hI := hI.2
        have f7 := hide hI.1
        replace hI := hI.2
        have f8 := hide hI.1
        replace hI := hI.2
        have f9 := hide hI.1
        replace hI := hI.2
        have f10 := hide hI.1
        replace hI := hI.2
        have f11 := hide hI.1
        replace hI := hI.2
        have f12 := hide hI.1
        replace hI := hI.2
        have f13 := hide hI.1
        replace hI := hI.2
        have f14 := hide hI.1
        replace hI := hI.2
        have f15 := hide hI.1
        replace hI := hI.2
        have f16 := hide hI.1
        replace hI := hI.2
        have f17 := hide hI.1
        replace hI := hI.2
        have f18 := hide hI
        clear hI
        have p0 := keep hG p0
        have p1 := keep hG p1
        have p2 := keep hG p2
        have q0 := keep hG q0
        have q1 := keep hG q1
        have q2 := keep hG q2
        have s3 := keep hG s3
        obtain rfl := f17.out (hD.on 17 (by kernel_rfl))
        try simp only [puts, Act.put, List.setIfInBounds_toArray, List.set_cons_zero, List.set_cons_succ]
        try go_simp
        exact hK.out _ _ _ (by simp only [puts, Act.put, List.setIfInBounds_toArray, List.set_cons_zero, List.set_cons_succ] <;> rfl) ⟨hG, (fun h => f0.out h), (fun h => f1.out h), (fun h => f2.out h), (fun h => f3.out h), (fun h => f4.out h), (fun h => f5.out h), (fun h => f6.out h), (fun h => f7.out h), (fun h => f8.out h), (fun h => f9.out h), (fun h => f10.out h), (fun h => f11.out h), (fun h => f12.out h), (fun h => f13.out h), (fun h => f14.out h), (fun h => f15.out h), (fun h => f16.out h), (fun h => f17.out h), (fun _ => rfl)⟩
    intro L vs W hlen hall hI
    obtain ⟨x0, x1, x2, x3, x4, x5, x6, x7, x8, x9, x10, x11, x12, x13, x14, x15, x16, x17, x18, rfl⟩ := len19 hlen
    have hG := hI.1
    replace hI := hI.2
    have f0 := hide hI.1
    replace hI := hI.2
    have f1 := hide hI.1
    replace hI := hI.2
    have f2 := hide hI.1
    replace hI := hI.2
    have f3 := hide hI.1
    replace hI := hI.2
    have f4 := hide hI.1
    replace hI := hI.2
    have f5 := hide hI.1
    replace hI := hI.2
    have f6 := hide hI.1
    replace hI := hI.2
    have f7 := hide hI.1
    replace hI := hI.2
    have f8 := hide hI.1
    replace hI := hI.2
    have f9 := hide hI.1
    replace hI := hI.2
    have f10 := hide hI.1
    replace hI := hI.2
    have f11 := hide hI.1
    replace hI := hI.2
    have f12 := hide hI.1
    replace hI := hI.2
    have f13 := hide hI.1
    replace hI := hI.2
    have f14 := hide hI.1
    replace hI := hI.2
    have f15 := hide hI.1
    replace hI := hI.2
    have f16 := hide hI.1
    replace hI := hI.2
    have f17 := hide hI.1
    replace hI := hI.2
    have f18 := hide hI
    clear hI
    obtain rfl := f0.out (hall 0 (by decide))
    obtain rfl := f1.out (hall 1 (by decide))
    obtain rfl := f2.out (hall 2 (by decide))
    obtain rfl := f3.out (hall 3 (by decide))
    obtain rfl := f4.out (hall 4 (by decide))
    obtain rfl := f5.out (hall 5 (by decide))
    obtain rfl := f6.out (hall 6 (by decide))
    obtain rfl := f7.out (hall 7 (by decide))
    obtain rfl := f8.out (hall 8 (by decide))
    obtain rfl := f9.out (hall 9 (by decide))
    obtain rfl := f10.out (hall 10 (by decide))
    have g11 := f11.out (hall 11 (by decide))
    obtain rfl := f12.out (hall 12 (by decide))
    obtain rfl := f13.out (hall 13 (by decide))
    obtain rfl := f14.out (hall 14 (by decide))
    have g15 := f15.out (hall 15 (by decide))
    obtain rfl := f16.out (hall 16 (by decide))
    obtain rfl := f17.out (hall 17 (by decide))
    obtain rfl := f18.out (hall 18 (by decide))
    have hal := hide hall
    clear hall f0 f1 f2 f3 f4 f5 f6 f7 f8 f9 f10 f11 f12 f13 f14 f15 f16 f17 f18
    try simp only [puts, Act.put, List.setIfInBounds_toArray, List.set_cons_zero, List.set_cons_succ]
    have hfin := below2 hwW hG
    go_wp2_with fail
    go_ret
    exact ⟨rfl, hfin⟩
  · go_wp2_with fail
    generalize hS1 : World.alloc w4 _ = S1
    have zS1 : S1.heap.size = w4.heap.size + 1 := by rw [← hS1]; simp
    have bS1 : Below w4.heap.size w4 S1 := by rw [← hS1]; exact bal w4 _
    have bS : Blk S1 (w4.heap.size) [.bool true, .int .i64 bs', .int .i64 bg, .slice pa PL.length pn] 34 := by rw [← hS1]; exact Blk.newA w4 _ (by first | rfl | simp)
    have Sb := bS1
    have Sz := zS1
    clear hS1 zS1 bS1
    have hr5 := hr3.below Sb
    have hg5 := hg3.below Sb
    have hp5 := hp4.keeps (keeps_of_below Sb)
    have hw5 := below2 hbw3 Sb
    replace bP := bP.later Sb
    replace p0 := bP.cell 0 rfl
    replace p1 := bP.cell 1 rfl
    replace p2 := bP.cell 2 rfl
    have s2 := bS.cell 2 rfl
    have s3 := bS.cell 3 rfl
    obtain ⟨P, hP⟩ : ∃ P, pickF by_ 1000 = P := ⟨_, rfl⟩
    have hp0 : 0 ≤ P := by rw [← hP]; exact pickF_nonneg by_ (by decide)
    have hp1 : P < 1000 := by rw [← hP]; exact pickF_lt by_ (by decide)
    have HPK := hide (fun W => pickp_any by_ 1000 W hby.1 hby.2 (by omega) (by omega))
    rw [hP] at HPK
    have HB1 := hide (HMB.out (by trivial) P hp0 hp1)
    have e1 : IntKind.i64.wrap (bg + P) = bg + P := IntWalk.i64_in _ ⟨by omega, by omega⟩
    have HR8 := hide hr8
    clear HNF HMB HMR bP bS hr3 hg3 hp4 hbw3 hP hby hp0 hp1 hbd1 hbd2 Sz lP hr8 hn8 hrm hgm HM2 bG3 hr28 hy1 hy2
    go_wp2_with fail
    refine wp_region_inv [some 32, some 33, some 34, some 35, some 36, some 37, some 38, some 39, some 40, some 41, some 42, some 43, some 10] (fun L vs W => match vs with | [x0, x1, x2, x3, x4, x5, x6, x7, x8, x9, x10, x11, x12] => (Below S1.heap.size S1 W) ∧ (L 0 = true → x0 = .bool true) ∧ (L 1 = true → x1 = .bool true) ∧ (L 2 = true → x2 = .agg #[.int .i64 n, .slice ra rows.length rc, .slice ga gain.length gc]) ∧ (L 3 = true → x3 = .pointer (some ⟨w4.heap.size, 3, none⟩)) ∧ (L 4 = true → x4 = .slice pa PL.length pn) ∧ (L 5 = true → x5 = .pointer (some ⟨w4.heap.size, 2, none⟩)) ∧ (L 6 = true → x6 = .int .i64 bg) ∧ (L 7 = true → x7 = .int .i64 by_) ∧ (L 8 = true → x8 = .int .i64 P) ∧ (L 9 = true → x9 = .int .i64 (bg + P)) ∧ (L 10 = true → x10 = .bool true) ∧ (L 11 = true → x11 = .bool true) ∧ (L 12 = true → x12 = .bool true) | _ => False) [_, _, _, _, _, _, _, _, _, _, _, _, _] (by kernel_rfl) (by kernel_rfl) rfl (by simp only [puts, Act.put, List.setIfInBounds_toArray, List.set_cons_zero, List.set_cons_succ] <;> rfl) ?_ ?_ ?_
    · exact ⟨(Below.refl _ _).drew, (fun h => by cases h), (fun h => by cases h), (fun h => by cases h), (fun h => by cases h), (fun h => by cases h), (fun h => by cases h), (fun h => by cases h), (fun h => by cases h), (fun h => by cases h), (fun h => by cases h), (fun h => by cases h), (fun h => by cases h), (fun h => by cases h)⟩
    · refine ⟨?_, ?_, ?_, ?_, ?_, ?_, ?_, ?_, ?_, ?_, ?_, ?_, ?_, trivial⟩
      · intro L vs W hlen hL hD hI K hK
        obtain ⟨x0, x1, x2, x3, x4, x5, x6, x7, x8, x9, x10, x11, x12, rfl⟩ := len13 hlen
        have hG := hI.1
        replace hI := hI.2
        have f0 := hide hI.1
        replace hI := hI.2
        have f1 := hide hI.1
        replace hI := hI.2
        have f2 := hide hI.1
        replace hI := hI.2
        have f3 := hide hI.1
        replace hI := hI.2
        have f4 := hide hI.1
        replace hI := hI.2
        have f5 := hide hI.1
        replace hI := hI.2
        have f6 := hide hI.1
        replace hI := hI.2
        have f7 := hide hI.1
        replace hI := hI.2
        have f8 := hide hI.1
        replace hI := hI.2
        have f9 := hide hI.1
        replace hI := hI.2
        have f10 := hide hI.1
        replace hI := hI.2
        have f11 := hide hI.1
        replace hI := hI.2
        have f12 := hide hI
        clear hI
        have p0 := keep hG p0
        have p1 := keep hG p1
        have p2 := keep hG p2
        have s2 := keep hG s2
        have s3 := keep hG s3
        try simp only [puts, Act.put, List.setIfInBounds_toArray, List.set_cons_zero, List.set_cons_succ]
        try go_simp
        exact hK.out _ _ _ (by simp only [puts, Act.put, List.setIfInBounds_toArray, List.set_cons_zero, List.set_cons_succ] <;> rfl) ⟨hG, (fun _ => rfl), (fun h => f1.out h), (fun h => f2.out h), (fun h => f3.out h), (fun h => f4.out h), (fun h => f5.out h), (fun h => f6.out h), (fun h => f7.out h), (fun h => f8.out h), (fun h => f9.out h), (fun h => f10.out h), (fun h => f11.out h), (fun h => f12.out h)⟩
      · intro L vs W hlen hL hD hI K hK
        obtain ⟨x0, x1, x2, x3, x4, x5, x6, x7, x8, x9, x10, x11, x12, rfl⟩ := len13 hlen
        have hG := hI.1
        replace hI := hI.2
        have f0 := hide hI.1
        replace hI := hI.2
        have f1 := hide hI.1
        replace hI := hI.2
        have f2 := hide hI.1
        replace hI := hI.2
        have f3 := hide hI.1
        replace hI := hI.2
        have f4 := hide hI.1
        replace hI := hI.2
        have f5 := hide hI.1
        replace hI := hI.2
        have f6 := hide hI.1
        replace hI := hI.2
        have f7 := hide hI.1
        replace hI := hI.2
        have f8 := hide hI.1
        replace hI := hI.2
        have f9 := hide hI.1
        replace hI := hI.2
        have f10 := hide hI.1
        replace hI := hI.2
        have f11 := hide hI.1
        replace hI := hI.2
        have f12 := hide hI
        clear hI
        have p0 := keep hG p0
        have p1 := keep hG p1
        have p2 := keep hG p2
        have s2 := keep hG s2
        have s3 := keep hG s3
        obtain rfl := f0.out (hD.on 0 (by kernel_rfl))
        try simp only [puts, Act.put, List.setIfInBounds_toArray, List.set_cons_zero, List.set_cons_succ]
        try go_simp
        exact hK.out _ _ _ (by simp only [puts, Act.put, List.setIfInBounds_toArray, List.set_cons_zero, List.set_cons_succ] <;> rfl) ⟨hG, (fun h => f0.out h), (fun _ => rfl), (fun h => f2.out h), (fun h => f3.out h), (fun h => f4.out h), (fun h => f5.out h), (fun h => f6.out h), (fun h => f7.out h), (fun h => f8.out h), (fun h => f9.out h), (fun h => f10.out h), (fun h => f11.out h), (fun h => f12.out h)⟩
      · intro L vs W hlen hL hD hI K hK
        obtain ⟨x0, x1, x2, x3, x4, x5, x6, x7, x8, x9, x10, x11, x12, rfl⟩ := len13 hlen
        have hG := hI.1
        replace hI := hI.2
        have f0 := hide hI.1
        replace hI := hI.2
        have f1 := hide hI.1
        replace hI := hI.2
        have f2 := hide hI.1
        replace hI := hI.2
        have f3 := hide hI.1
        replace hI := hI.2
        have f4 := hide hI.1
        replace hI := hI.2
        have f5 := hide hI.1
        replace hI := hI.2
        have f6 := hide hI.1
        replace hI := hI.2
        have f7 := hide hI.1
        replace hI := hI.2
        have f8 := hide hI.1
        replace hI := hI.2
        have f9 := hide hI.1
        replace hI := hI.2
        have f10 := hide hI.1
        replace hI := hI.2
        have f11 := hide hI.1
        replace hI := hI.2
        have f12 := hide hI
        clear hI
        have p0 := keep hG p0
        have p1 := keep hG p1
        have p2 := keep hG p2
        have s2 := keep hG s2
        have s3 := keep hG s3
        obtain rfl := f1.out (hD.on 1 (by kernel_rfl))
        try simp only [puts, Act.put, List.setIfInBounds_toArray, List.set_cons_zero, List.set_cons_succ]
        try go_simp
        exact hK.out _ _ _ (by simp only [puts, Act.put, List.setIfInBounds_toArray, List.set_cons_zero, List.set_cons_succ] <;> rfl) ⟨hG, (fun h => f0.out h), (fun h => f1.out h), (fun _ => rfl), (fun h => f3.out h), (fun h => f4.out h), (fun h => f5.out h), (fun h => f6.out h), (fun h => f7.out h), (fun h => f8.out h), (fun h => f9.out h), (fun h => f10.out h), (fun h => f11.out h), (fun h => f12.out h)⟩
      · intro L vs W hlen hL hD hI K hK
        obtain ⟨x0, x1, x2, x3, x4, x5, x6, x7, x8, x9, x10, x11, x12, rfl⟩ := len13 hlen
        have hG := hI.1
        replace hI := hI.2
        have f0 := hide hI.1
        replace hI := hI.2
        have f1 := hide hI.1
        replace hI := hI.2
        have f2 := hide hI.1
        replace hI := hI.2
        have f3 := hide hI.1
        replace hI := hI.2
        have f4 := hide hI.1
        replace hI := hI.2
        have f5 := hide hI.1
        replace hI := hI.2
        have f6 := hide hI.1
        replace hI := hI.2
        have f7 := hide hI.1
        replace hI := hI.2
        have f8 := hide hI.1
        replace hI := hI.2
        have f9 := hide hI.1
        replace hI := hI.2
        have f10 := hide hI.1
        replace hI := hI.2
        have f11 := hide hI.1
        replace hI := hI.2
        have f12 := hide hI
        clear hI
        have p0 := keep hG p0
        have p1 := keep hG p1
        have p2 := keep hG p2
        have s2 := keep hG s2
        have s3 := keep hG s3
        obtain rfl := f1.out (hD.on 1 (by kernel_rfl))
        try simp only [puts, Act.put, List.setIfInBounds_toArray, List.set_cons_zero, List.set_cons_succ]
        try go_simp
        exact hK.out _ _ _ (by simp only [puts, Act.put, List.setIfInBounds_toArray, List.set_cons_zero, List.set_cons_succ] <;> rfl) ⟨hG, (fun h => f0.out h), (fun h => f1.out h), (fun h => f2.out h), (fun _ => rfl), (fun h => f4.out h), (fun h => f5.out h), (fun h => f6.out h), (fun h => f7.out h), (fun h => f8.out h), (fun h => f9.out h), (fun h => f10.out h), (fun h => f11.out h), (fun h => f12.out h)⟩
      · intro L vs W hlen hL hD hI K hK
        obtain ⟨x0, x1, x2, x3, x4, x5, x6, x7, x8, x9, x10, x11, x12, rfl⟩ := len13 hlen
        have hG := hI.1
        replace hI := hI.2
        have f0 := hide hI.1
        replace hI := hI.2
        have f1 := hide hI.1
        replace hI := hI.2
        have f2 := hide hI.1
        replace hI := hI.2
        have f3 := hide hI.1
        replace hI := hI.2
        have f4 := hide hI.1
        replace hI := hI.2
        have f5 := hide hI.1
        replace hI := hI.2
        have f6 := hide hI.1
        replace hI := hI.2
        have f7 := hide hI.1
        replace hI := hI.2
        have f8 := hide hI.1
        replace hI := hI.2
        have f9 := hide hI.1
        replace hI := hI.2
        have f10 := hide hI.1
        replace hI := hI.2
        have f11 := hide hI.1
        replace hI := hI.2
        have f12 := hide hI
        clear hI
        have p0 := keep hG p0
        have p1 := keep hG p1
        have p2 := keep hG p2
        have s2 := keep hG s2
        have s3 := keep hG s3
        obtain rfl := f1.out (hD.on 1 (by kernel_rfl))
        obtain rfl := f3.out (hD.on 3 (by kernel_rfl))
        try simp only [puts, Act.put, List.setIfInBounds_toArray, List.set_cons_zero, List.set_cons_succ]
        try go_simp
        exact hK.out _ _ _ (by simp only [puts, Act.put, List.setIfInBounds_toArray, List.set_cons_zero, List.set_cons_succ] <;> rfl) ⟨hG, (fun h => f0.out h), (fun h => f1.out h), (fun h => f2.out h), (fun h => f3.out h), (fun _ => rfl), (fun h => f5.out h), (fun h => f6.out h), (fun h => f7.out h), (fun h => f8.out h), (fun h => f9.out h), (fun h => f10.out h), (fun h => f11.out h), (fun h => f12.out h)⟩
      · intro L vs W hlen hL hD hI K hK
        obtain ⟨x0, x1, x2, x3, x4, x5, x6, x7, x8, x9, x10, x11, x12, rfl⟩ := len13 hlen
        have hG := hI.1
        replace hI := hI.2
        have f0 := hide hI.1
        replace hI := hI.2
        have f1 := hide hI.1
        replace hI := hI.2
        have f2 := hide hI.1
        replace hI := hI.2
        have f3 := hide hI.1
        replace hI := hI.2
        have f4 := hide hI.1
        replace hI := hI.2
        have f5 := hide hI.1
        replace hI := hI.2
        have f6 := hide hI.1
        replace hI := hI.2
        have f7 := hide hI.1
        replace hI := hI.2
        have f8 := hide hI.1
        replace hI := hI.2
        have f9 := hide hI.1
        replace hI := hI.2
        have f10 := hide hI.1
        replace hI := hI.2
        have f11 := hide hI.1
        replace hI := hI.2
        have f12 := hide hI
        clear hI
        have p0 := keep hG p0
        have p1 := keep hG p1
        have p2 := keep hG p2
        have s2 := keep hG s2
        have s3 := keep hG s3
        obtain rfl := f1.out (hD.on 1 (by kernel_rfl))
        try simp only [puts, Act.put, List.setIfInBounds_toArray, List.set_cons_zero, List.set_cons_succ]
        try go_simp
        exact hK.out _ _ _ (by simp only [puts, Act.put, List.setIfInBounds_toArray, List.set_cons_zero, List.set_cons_succ] <;> rfl) ⟨hG, (fun h => f0.out h), (fun h => f1.out h), (fun h => f2.out h), (fun h => f3.out h), (fun h => f4.out h), (fun _ => rfl), (fun h => f6.out h), (fun h => f7.out h), (fun h => f8.out h), (fun h => f9.out h), (fun h => f10.out h), (fun h => f11.out h), (fun h => f12.out h)⟩
      · intro L vs W hlen hL hD hI K hK
        obtain ⟨x0, x1, x2, x3, x4, x5, x6, x7, x8, x9, x10, x11, x12, rfl⟩ := len13 hlen
        have hG := hI.1
        replace hI := hI.2
        have f0 := hide hI.1
        replace hI := hI.2
        have f1 := hide hI.1
        replace hI := hI.2
        have f2 := hide hI.1
        replace hI := hI.2
        have f3 := hide hI.1
        replace hI := hI.2
        have f4 := hide hI.1
        replace hI := hI.2
        have f5 := hide hI.1
        replace hI := hI.2
        have f6 := hide hI.1
        replace hI := hI.2
        have f7 := hide hI.1
        replace hI := hI.2
        have f8 := hide hI.1
        replace hI := hI.2
        have f9 := hide hI.1
        replace hI := hI.2
        have f10 := hide hI.1
        replace hI := hI.2
        have f11 := hide hI.1
        replace hI := hI.2
        have f12 := hide hI
        clear hI
        have p0 := keep hG p0
        have p1 := keep hG p1
        have p2 := keep hG p2
        have s2 := keep hG s2
        have s3 := keep hG s3
        obtain rfl := f1.out (hD.on 1 (by kernel_rfl))
        obtain rfl := f5.out (hD.on 5 (by kernel_rfl))
        try simp only [puts, Act.put, List.setIfInBounds_toArray, List.set_cons_zero, List.set_cons_succ]
        try go_simp
        exact hK.out _ _ _ (by simp only [puts, Act.put, List.setIfInBounds_toArray, List.set_cons_zero, List.set_cons_succ] <;> rfl) ⟨hG, (fun h => f0.out h), (fun h => f1.out h), (fun h => f2.out h), (fun h => f3.out h), (fun h => f4.out h), (fun h => f5.out h), (fun _ => rfl), (fun h => f7.out h), (fun h => f8.out h), (fun h => f9.out h), (fun h => f10.out h), (fun h => f11.out h), (fun h => f12.out h)⟩
      · intro L vs W hlen hL hD hI K hK
        obtain ⟨x0, x1, x2, x3, x4, x5, x6, x7, x8, x9, x10, x11, x12, rfl⟩ := len13 hlen
        have hG := hI.1
        replace hI := hI.2
        have f0 := hide hI.1
        replace hI := hI.2
        have f1 := hide hI.1
        replace hI := hI.2
        have f2 := hide hI.1
        replace hI := hI.2
        have f3 := hide hI.1
        replace hI := hI.2
        have f4 := hide hI.1
        replace hI := hI.2
        have f5 := hide hI.1
        replace hI := hI.2
        have f6 := hide hI.1
        replace hI := hI.2
        have f7 := hide hI.1
        replace hI := hI.2
        have f8 := hide hI.1
        replace hI := hI.2
        have f9 := hide hI.1
        replace hI := hI.2
        have f10 := hide hI.1
        replace hI := hI.2
        have f11 := hide hI.1
        replace hI := hI.2
        have f12 := hide hI
        clear hI
        have p0 := keep hG p0
        have p1 := keep hG p1
        have p2 := keep hG p2
        have s2 := keep hG s2
        have s3 := keep hG s3
        obtain rfl := f1.out (hD.on 1 (by kernel_rfl))
        try simp only [puts, Act.put, List.setIfInBounds_toArray, List.set_cons_zero, List.set_cons_succ]
        try go_simp
        exact hK.out _ _ _ (by simp only [puts, Act.put, List.setIfInBounds_toArray, List.set_cons_zero, List.set_cons_succ] <;> rfl) ⟨hG, (fun h => f0.out h), (fun h => f1.out h), (fun h => f2.out h), (fun h => f3.out h), (fun h => f4.out h), (fun h => f5.out h), (fun h => f6.out h), (fun _ => rfl), (fun h => f8.out h), (fun h => f9.out h), (fun h => f10.out h), (fun h => f11.out h), (fun h => f12.out h)⟩
      · intro L vs W hlen hL hD hI K hK
        obtain ⟨x0, x1, x2, x3, x4, x5, x6, x7, x8, x9, x10, x11, x12, rfl⟩ := len13 hlen
        have hG := hI.1
        replace hI := hI.2
        have f0 := hide hI.1
        replace hI := hI.2
        have f1 := hide hI.1
        replace hI := hI.2
        have f2 := hide hI.1
        replace hI := hI.2
        have f3 := hide hI.1
        replace hI := hI.2
        have f4 := hide hI.1
        replace hI := hI.2
        have f5 := hide hI.1
        replace hI := hI.2
        have f6 := hide hI.1
        replace hI := hI.2
        have f7 := hide hI.1
        replace hI := hI.2
        have f8 := hide hI.1
        replace hI := hI.2
        have f9 := hide hI.1
        replace hI := hI.2
        have f10 := hide hI.1
        replace hI := hI.2
        have f11 := hide hI.1
        replace hI := hI.2
        have f12 := hide hI
        clear hI
        have p0 := keep hG p0
        have p1 := keep hG p1
        have p2 := keep hG p2
        have s2 := keep hG s2
        have s3 := keep hG s3
        obtain rfl := f1.out (hD.on 1 (by kernel_rfl))
        obtain rfl := f7.out (hD.on 7 (by kernel_rfl))
        try simp only [puts, Act.put, List.setIfInBounds_toArray, List.set_cons_zero, List.set_cons_succ]
        try go_simp
        refine (HPK.out _).mono ?_
        rintro e W' ⟨rfl, rfl⟩
        try go_simp
        exact hK.out _ _ _ (by simp only [puts, Act.put, List.setIfInBounds_toArray, List.set_cons_zero, List.set_cons_succ] <;> rfl) ⟨hG, (fun h => f0.out h), (fun h => f1.out h), (fun h => f2.out h), (fun h => f3.out h), (fun h => f4.out h), (fun h => f5.out h), (fun h => f6.out h), (fun h => f7.out h), (fun _ => rfl), (fun h => f9.out h), (fun h => f10.out h), (fun h => f11.out h), (fun h => f12.out h)⟩
      · intro L vs W hlen hL hD hI K hK
        obtain ⟨x0, x1, x2, x3, x4, x5, x6, x7, x8, x9, x10, x11, x12, rfl⟩ := len13 hlen
        have hG := hI.1
        replace hI := hI.2
        have f0 := hide hI.1
        replace hI := hI.2
        have f1 := hide hI.1
        replace hI := hI.2
        have f2 := hide hI.1
        replace hI := hI.2
        have f3 := hide hI.1
        replace hI := hI.2
        have f4 := hide hI.1
        replace hI := hI.2
        have f5 := hide hI.1
        replace hI := hI.2
        have f6 := hide hI.1
        replace hI := hI.2
        have f7 := hide hI.1
        replace hI := hI.2
        have f8 := hide hI.1
        replace hI := hI.2
        have f9 := hide hI.1
        replace hI := hI.2
        have f10 := hide hI.1
        replace hI := hI.2
        have f11 := hide hI.1
        replace hI := hI.2
        have f12 := hide hI
        clear hI
        have p0 := keep hG p0
        have p1 := keep hG p1
        have p2 := keep hG p2
        have s2 := keep hG s2
        have s3 := keep hG s3
        obtain rfl := f1.out (hD.on 1 (by kernel_rfl))
        obtain rfl := f6.out (hD.on 6 (by kernel_rfl))
        obtain rfl := f8.out (hD.on 8 (by kernel_rfl))
        try simp only [puts, Act.put, List.setIfInBounds_toArray, List.set_cons_zero, List.set_cons_succ]
        try go_simp
        exact hK.out _ _ _ (by simp only [puts, Act.put, List.setIfInBounds_toArray, List.set_cons_zero, List.set_cons_succ] <;> rfl) ⟨hG, (fun h => f0.out h), (fun h => f1.out h), (fun h => f2.out h), (fun h => f3.out h), (fun h => f4.out h), (fun h => f5.out h), (fun h => f6.out h), (fun h => f7.out h), (fun h => f8.out h), (fun _ => rfl), (fun h => f10.out h), (fun h => f11.out h), (fun h => f12.out h)⟩
      · intro L vs W hlen hL hD hI K hK
        obtain ⟨x0, x1, x2, x3, x4, x5, x6, x7, x8, x9, x10, x11, x12, rfl⟩ := len13 hlen
        have hG := hI.1
        replace hI := hI.2
        have f0 := hide hI.1
        replace hI := hI.2
        have f1 := hide hI.1
        replace hI := hI.2
        have f2 := hide hI.1
        replace hI := hI.2
        have f3 := hide hI.1
        replace hI := hI.2
        have f4 := hide hI.1
        replace hI := hI.2
        have f5 := hide hI.1
        replace hI := hI.2
        have f6 := hide hI.1
        replace hI := hI.2
        have f7 := hide hI.1
        replace hI := hI.2
        have f8 := hide hI.1
        replace hI := hI.2
        have f9 := hide hI.1
        replace hI := hI.2
        have f10 := hide hI.1
        replace hI := hI.2
        have f11 := hide hI.1
        replace hI := hI.2
        have f12 := hide hI
        clear hI
        have p0 := keep hG p0
        have p1 := keep hG p1
        have p2 := keep hG p2
        have s2 := keep hG s2
        have s3 := keep hG s3
        obtain rfl := f1.out (hD.on 1 (by kernel_rfl))
        obtain rfl := f2.out (hD.on 2 (by kernel_rfl))
        obtain rfl := f4.out (hD.on 4 (by kernel_rfl))
        obtain rfl := f9.out (hD.on 9 (by kernel_rfl))
        try simp only [puts, Act.put, List.setIfInBounds_toArray, List.set_cons_zero, List.set_cons_succ]
        try go_simp
        refine (bounds_any ⟨n, rows, gain⟩ _ _ PL _ (bg + P) W (hr5.below hG) (hg5.below hG) (hp5.keeps (keeps_of_below hG)) (by have := HR8.out ; show rows.length ≤ 1000 ; omega) HGL.out).mono ?_
        rw [HB1.out]
        rintro e W' ⟨rfl, hbb⟩
        try go_simp
        have hb := hbb
        exact hK.out _ _ _ (by simp only [puts, Act.put, List.setIfInBounds_toArray, List.set_cons_zero, List.set_cons_succ] <;> rfl) ⟨below2 hG hb, (fun h => f0.out h), (fun h => f1.out h), (fun h => f2.out h), (fun h => f3.out h), (fun h => f4.out h), (fun h => f5.out h), (fun h => f6.out h), (fun h => f7.out h), (fun h => f8.out h), (fun h => f9.out h), (fun _ => rfl), (fun h => f11.out h), (fun h => f12.out h)⟩
      · intro L vs W hlen hL hD hI K hK
        obtain ⟨x0, x1, x2, x3, x4, x5, x6, x7, x8, x9, x10, x11, x12, rfl⟩ := len13 hlen
        have hG := hI.1
        replace hI := hI.2
        have f0 := hide hI.1
        replace hI := hI.2
        have f1 := hide hI.1
        replace hI := hI.2
        have f2 := hide hI.1
        replace hI := hI.2
        have f3 := hide hI.1
        replace hI := hI.2
        have f4 := hide hI.1
        replace hI := hI.2
        have f5 := hide hI.1
        replace hI := hI.2
        have f6 := hide hI.1
        replace hI := hI.2
        have f7 := hide hI.1
        replace hI := hI.2
        have f8 := hide hI.1
        replace hI := hI.2
        have f9 := hide hI.1
        replace hI := hI.2
        have f10 := hide hI.1
        replace hI := hI.2
        have f11 := hide hI.1
        replace hI := hI.2
        have f12 := hide hI
        clear hI
        have p0 := keep hG p0
        have p1 := keep hG p1
        have p2 := keep hG p2
        have s2 := keep hG s2
        have s3 := keep hG s3
        obtain rfl := f1.out (hD.on 1 (by kernel_rfl))
        obtain rfl := f10.out (hD.on 10 (by kernel_rfl))
        try simp only [puts, Act.put, List.setIfInBounds_toArray, List.set_cons_zero, List.set_cons_succ]
        try go_simp
        exact hK.out _ _ _ (by simp only [puts, Act.put, List.setIfInBounds_toArray, List.set_cons_zero, List.set_cons_succ] <;> rfl) ⟨hG, (fun h => f0.out h), (fun h => f1.out h), (fun h => f2.out h), (fun h => f3.out h), (fun h => f4.out h), (fun h => f5.out h), (fun h => f6.out h), (fun h => f7.out h), (fun h => f8.out h), (fun h => f9.out h), (fun h => f10.out h), (fun _ => rfl), (fun h => f12.out h)⟩
      · intro L vs W hlen hL hD hI K hK
        obtain ⟨x0, x1, x2, x3, x4, x5, x6, x7, x8, x9, x10, x11, x12, rfl⟩ := len13 hlen
        have hG := hI.1
        replace hI := hI.2
        have f0 := hide hI.1
        replace hI := hI.2
        have f1 := hide hI.1
        replace hI := hI.2
        have f2 := hide hI.1
        replace hI := hI.2
        have f3 := hide hI.1
        replace hI := hI.2
        have f4 := hide hI.1
        replace hI := hI.2
        have f5 := hide hI.1
        replace hI := hI.2
        have f6 := hide hI.1
        replace hI := hI.2
        have f7 := hide hI.1
        replace hI := hI.2
        have f8 := hide hI.1
        replace hI := hI.2
        have f9 := hide hI.1
        replace hI := hI.2
        have f10 := hide hI.1
        replace hI := hI.2
        have f11 := hide hI.1
        replace hI := hI.2
        have f12 := hide hI
        clear hI
        have p0 := keep hG p0
        have p1 := keep hG p1
        have p2 := keep hG p2
        have s2 := keep hG s2
        have s3 := keep hG s3
        obtain rfl := f11.out (hD.on 11 (by kernel_rfl))
        try simp only [puts, Act.put, List.setIfInBounds_toArray, List.set_cons_zero, List.set_cons_succ]
        try go_simp
        exact hK.out _ _ _ (by simp only [puts, Act.put, List.setIfInBounds_toArray, List.set_cons_zero, List.set_cons_succ] <;> rfl) ⟨hG, (fun h => f0.out h), (fun h => f1.out h), (fun h => f2.out h), (fun h => f3.out h), (fun h => f4.out h), (fun h => f5.out h), (fun h => f6.out h), (fun h => f7.out h), (fun h => f8.out h), (fun h => f9.out h), (fun h => f10.out h), (fun h => f11.out h), (fun _ => rfl)⟩
    intro L vs W hlen hall hI
    obtain ⟨x0, x1, x2, x3, x4, x5, x6, x7, x8, x9, x10, x11, x12, rfl⟩ := len13 hlen
    have hG := hI.1
    replace hI := hI.2
    have f0 := hide hI.1
    replace hI := hI.2
    have f1 := hide hI.1
    replace hI := hI.2
    have f2 := hide hI.1
    replace hI := hI.2
    have f3 := hide hI.1
    replace hI := hI.2
    have f4 := hide hI.1
    replace hI := hI.2
    have f5 := hide hI.1
    replace hI := hI.2
    have f6 := hide hI.1
    replace hI := hI.2
    have f7 := hide hI.1
    replace hI := hI.2
    have f8 := hide hI.1
    replace hI := hI.2
    have f9 := hide hI.1
    replace hI := hI.2
    have f10 := hide hI.1
    replace hI := hI.2
    have f11 := hide hI.1
    replace hI := hI.2
    have f12 := hide hI
    clear hI
    obtain rfl := f0.out (hall 0 (by decide))
    obtain rfl := f1.out (hall 1 (by decide))
    obtain rfl := f2.out (hall 2 (by decide))
    obtain rfl := f3.out (hall 3 (by decide))
    obtain rfl := f4.out (hall 4 (by decide))
    obtain rfl := f5.out (hall 5 (by decide))
    obtain rfl := f6.out (hall 6 (by decide))
    obtain rfl := f7.out (hall 7 (by decide))
    obtain rfl := f8.out (hall 8 (by decide))
    obtain rfl := f9.out (hall 9 (by decide))
    obtain rfl := f10.out (hall 10 (by decide))
    obtain rfl := f11.out (hall 11 (by decide))
    obtain rfl := f12.out (hall 12 (by decide))
    have hal := hide hall
    clear hall f0 f1 f2 f3 f4 f5 f6 f7 f8 f9 f10 f11 f12
    try simp only [puts, Act.put, List.setIfInBounds_toArray, List.set_cons_zero, List.set_cons_succ]
    have hfin := below2 hw5 hG
    go_wp2_with fail
    go_ret
    exact ⟨rfl, hfin⟩
end Go.Proofs.Ytppfdjjhloaopaa
namespace Go.Proofs.Ytppfdjjhloaopaa
open Go.ChangeShapes Go.WideShapes Go.ChangeAt Go.RowKit

set_option maxRecDepth 100000 in
theorem more_lifted (os : Os) (started : os.Started) (H : Type) (enc : TypeId × Value → H) :
    ReturnsInHanded {} Try.checked os 7 .any (Rows.proofMoreSpec.pre6 enc Try.prog Try.f7 Rows.proofMoreRow.domain false) (Rows.proofMoreSpec.post enc Try.prog Try.f7 false true false false) := by
  refine returnsInHanded_of_change (C := Try.checked) Try.own started (by kernel_rfl) Try.func7
    (ChangeSpec.witness6 (enc := enc) (C := Try.checked) false ⟨#[], #[.int .i64 0, .slice none 0 0, .agg #[.int .i64 0, .int .i64 0, .int .i64 0, .int .i64 0, .int .i64 0, .int .i64 0, .int .i64 0, .int .i64 0], .slice none 0 0, .int .i64 0], []⟩ 8 (by kernel_rfl) (by kernel_rfl) (by kernel_rfl) (by kernel_rfl)) ?_
  intro W base args ds gs before hval0 hW hcnd _
  have hval : ∀ (j : Nat) t v, Try.f7.params[j]? = some t → args[j]? = some v → Value.okWide Try.prog W .any base t v := hval0
  have hW' := hW
  obtain ⟨p, q, hA0, hV, rfl, hfz, hnd⟩ := hW
  have hA : DataW.TrodAll enc Try.prog W 0 (fun _ => true) true Try.f7.params.toList args.toList ds p := hA0
  rw [Try.params7] at hA hval
  obtain ⟨v0, as0, d0, ds0, p0, q0, e0, rfl, rfl, h0, hA⟩ := trodAll_cons hA
  obtain ⟨v1, as1, d1, ds1, p1, q1, rfl, rfl, rfl, h1, hA⟩ := trodAll_cons hA
  obtain ⟨v2, as2, d2, ds2, p2, q2, rfl, rfl, rfl, h2, hA⟩ := trodAll_cons hA
  obtain ⟨v3, as3, d3, ds3, p3, q3, rfl, rfl, rfl, h3, hA⟩ := trodAll_cons hA
  obtain ⟨v4, as4, d4, ds4, p4, q4, rfl, rfl, rfl, h4, hA⟩ := trodAll_cons hA
  obtain ⟨rfl, rfl, rfl⟩ := trodAll_nil hA
  obtain rfl : args = #[v0, v1, v2, v3, v4] := by cases args; simp_all
  obtain ⟨rfl, rfl⟩ := trodVars_none hV
  obtain ⟨x0, rfl, b0⟩ := open_i64 (hval 0 3 v0 rfl rfl) h0
  obtain ⟨x1, b1, c1⟩ := open_tris (hval 1 22 v1 rfl rfl) h1
  obtain ⟨x2, b2, rfl, c2⟩ := open_gains (hval 2 23 v2 rfl rfl) h2
  obtain ⟨x3, b3, c3⟩ := open_tris (hval 3 22 v3 rfl rfl) h3
  obtain ⟨x4, rfl, b4⟩ := open_i64 (hval 4 3 v4 rfl rfl) h4
  refine (more_any x0 x1 v1 x2 x3 v3 x4 W b0 b1 c1 b2 c2 b3 c3 b4).mono fun e W' ⟨he, hb⟩ => ⟨_, he, ?_⟩
  exact post_law Try.laidOut (by kernel_rfl) rfl rfl Try.underlying4 rfl hW' hb
theorem more_holds : Rows.ProofMoreSaid :=
  OpenClaim.holds_of_wide 7 Try.f7 rfl rfl rfl rfl rfl rfl rfl ⟨rfl, rfl, rfl, rfl, rfl⟩ rfl rfl rfl rfl rfl (by kernel_rfl) Try.func7 (by kernel_rfl)
    (of_decide_eq_true (by kernel_rfl)) (by unfold Func.isWrapper; first | (rw [if_pos (by decide +kernel)]; kernel_rfl) | (rw [if_neg (by decide +kernel)]; exact ⟨rfl, rfl⟩))
    (fun os started H enc _ => more_lifted os started H enc)
end Go.Proofs.Ytppfdjjhloaopaa
