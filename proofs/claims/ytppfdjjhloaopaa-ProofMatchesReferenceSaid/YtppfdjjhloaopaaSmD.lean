/- The walk of ProofMatchesReference. Conditions: how the arguments lie in memory; that integers are of 64 bits. -/
import Derived.Test.YtppfdjjhloaopaaSmC
import Derived.Test.YtppfdjjhloaopaaSmB
import Derived.Test.YtppfdjjhloaopaaSmA
import Derived.Test.YtppfdjjhloaopaaLwZ
namespace Go.Proofs.Ytppfdjjhloaopaa
open Go.RowKit

/-- a slice of four lists of steps -/
def FourAt (W : World) (v : Value) : Prop :=
  ∃ b : Nat, v = .slice (some ⟨b, 0, none⟩) 4 4 ∧ ∀ j : Nat, j < 4 → ∃ (ua : Option Addr) (un : Nat) (L : List StepD), W.cell? ⟨b, j, none⟩ = some (.slice ua L.length un) ∧ StepsIn W.cell? (.slice ua L.length un) L
theorem FourAt.below {W W' : World} {v : Value} (h : FourAt W v) (hb : Below W.heap.size W W') : FourAt W' v := by
  obtain ⟨b, e, h1⟩ := h
  refine ⟨b, e, fun j hj => ?_⟩
  obtain ⟨ua, un, L, h2, h3⟩ := h1 j hj
  exact ⟨ua, un, L, keep hb h2, h3.keeps (keeps_of_below hb)⟩
theorem FourAt.make {W : World} {b : Nat} {a0 a1 a2 a3 : Option Addr} {n0 n1 n2 n3 : Nat} {l0 l1 l2 l3 : List StepD} {t : TypeId} (hB : Blk W b [.slice a0 l0.length n0, .slice a1 l1.length n1, .slice a2 l2.length n2, .slice a3 l3.length n3] t)
    (h0 : StepsIn W.cell? (.slice a0 l0.length n0) l0) (h1 : StepsIn W.cell? (.slice a1 l1.length n1) l1) (h2 : StepsIn W.cell? (.slice a2 l2.length n2) l2) (h3 : StepsIn W.cell? (.slice a3 l3.length n3) l3) : FourAt W (.slice (some ⟨b, 0, none⟩) 4 4) :=
  ⟨b, rfl, fun j hj => by
    match j, hj with
    | 0, _ => exact ⟨_, _, _, hB.cell 0 rfl, h0⟩
    | 1, _ => exact ⟨_, _, _, hB.cell 1 rfl, h1⟩
    | 2, _ => exact ⟨_, _, _, hB.cell 2 rfl, h2⟩
    | 3, _ => exact ⟨_, _, _, hB.cell 3 rfl, h3⟩⟩
/-- a slice of two programs -/
def TwoAt (W : World) (v : Value) : Prop :=
  ∃ b : Nat, v = .slice (some ⟨b, 0, none⟩) 2 2 ∧ ∀ j : Nat, j < 2 → ∃ (q : ProgD) (ra : Option Addr) (rc : Nat) (ga : Option Addr) (gc : Nat), W.cell? ⟨b, j * 3, none⟩ = some (.int .i64 q.vars) ∧ W.cell? ⟨b, j * 3 + 1, none⟩ = some (.slice ra q.rows.length rc) ∧
    W.cell? ⟨b, j * 3 + 2, none⟩ = some (.slice ga q.gain.length gc) ∧ RowsAt W (.slice ra q.rows.length rc) q.rows ∧ IntsAt W (.slice ga q.gain.length gc) q.gain ∧ q.rows.length ≤ 1000 ∧ q.gain.length ≤ 1000
theorem TwoAt.below {W W' : World} {v : Value} (h : TwoAt W v) (hb : Below W.heap.size W W') : TwoAt W' v := by
  obtain ⟨b, e, h1⟩ := h
  refine ⟨b, e, fun j hj => ?_⟩
  obtain ⟨q, ra, rc, ga, gc, c0, c1, c2, h2, h3, h4, h5⟩ := h1 j hj
  exact ⟨q, ra, rc, ga, gc, keep hb c0, keep hb c1, keep hb c2, h2.below hb, h3.below hb, h4, h5⟩
theorem TwoAt.make {W : World} {b : Nat} {p q : ProgD} {ra ga qa ha : Option Addr} {rc gc qc hc : Nat} {t : TypeId} (hB : Blk W b [.int .i64 p.vars, .slice ra p.rows.length rc, .slice ga p.gain.length gc, .int .i64 q.vars, .slice qa q.rows.length qc, .slice ha q.gain.length hc] t)
    (h0 : RowsAt W (.slice ra p.rows.length rc) p.rows) (h1 : IntsAt W (.slice ga p.gain.length gc) p.gain) (h2 : RowsAt W (.slice qa q.rows.length qc) q.rows) (h3 : IntsAt W (.slice ha q.gain.length hc) q.gain)
    (hl : p.rows.length ≤ 1000 ∧ p.gain.length ≤ 1000) (hl2 : q.rows.length ≤ 1000 ∧ q.gain.length ≤ 1000) : TwoAt W (.slice (some ⟨b, 0, none⟩) 2 2) :=
  ⟨b, rfl, fun j hj => by
    match j, hj with
    | 0, _ => exact ⟨p, _, _, _, _, hB.cell 0 rfl, hB.cell 1 rfl, hB.cell 2 rfl, h0, h1, hl.1, hl.2⟩
    | 1, _ => exact ⟨q, _, _, _, _, hB.cell 3 rfl, hB.cell 4 rfl, hB.cell 5 rfl, h2, h3, hl2.1, hl2.2⟩⟩
theorem someF_len (p : ProgD) : (someF p).rows.length ≤ 1000 ∧ (someF p).gain.length ≤ 1000 := by
  constructor
  · show (cutUq p.rows (min p.rows.length 20)).length ≤ 1000
    rw [cutUq_len (by omega)]; omega
  · show (p.gain.take 12).length ≤ 1000
    rw [List.length_take]; omega
theorem list4 {z : List Int} (h : z.length = 4) : ∃ a b c d, z = [a, b, c, d] := by
  match z, h with
  | [a, b, c, d], _ => exact ⟨_, _, _, _, rfl⟩
theorem len36 {α : Type} {vs : List α} (h : vs.length = 36) : ∃ x0 x1 x2 x3 x4 x5 x6 x7 x8 x9 x10 x11 x12 x13 x14 x15 x16 x17 x18 x19 x20 x21 x22 x23 x24 x25 x26 x27 x28 x29 x30 x31 x32 x33 x34 x35, vs = [x0, x1, x2, x3, x4, x5, x6, x7, x8, x9, x10, x11, x12, x13, x14, x15, x16, x17, x18, x19, x20, x21, x22, x23, x24, x25, x26, x27, x28, x29, x30, x31, x32, x33, x34, x35] := by
  match vs, h with
  | x0 :: x1 :: x2 :: x3 :: [x4, x5, x6, x7, x8, x9, x10, x11, x12, x13, x14, x15, x16, x17, x18, x19, x20, x21, x22, x23, x24, x25, x26, x27, x28, x29, x30, x31, x32, x33, x34, x35], _ => exact ⟨_, _, _, _, _, _, _, _, _, _, _, _, _, _, _, _, _, _, _, _, _, _, _, _, _, _, _, _, _, _, _, _, _, _, _, _, rfl⟩
set_option maxRecDepth 100000 in
set_option maxHeartbeats 16000000 in
theorem refl34_any (v : Int) (x : List Tri) (xv : Value) (g : List Int) (raw : ProgD) (rrv rgv : Value) (z1 z2 : List Int) (l : List StepD) (lv : Value) (m : Int) (w : World) (hv : i64B v) (hx : TrisIn w.cell? xv x) (hx64 : ∀ t ∈ x, tri64 t)
    (hg : g.length = 8) (hg64 : ∀ y ∈ g, i64B y) (hrr : RowsAt w rrv raw.rows) (hrg : IntsAt w rgv raw.gain) (hz1 : z1.length = 4) (hz164 : ∀ y ∈ z1, i64B y) (hz2 : z2.length = 4) (hz264 : ∀ y ∈ z2, i64B y) (hl : StepsIn w.cell? lv l) (hm : i64B m) :
    Calls Try.prog 3 #[.int .i64 v, xv, .agg (g.map (Value.int .i64)).toArray, progV raw rrv rgv, .agg ((z1 ++ z2).map (Value.int .i64)).toArray, lv, .int .i64 m] w (Ret (.bool true) w) := by
  obtain ⟨la, ln, rfl, hl1, hl2, -⟩ := id hl
  obtain ⟨qa, qc, rfl, hq1, hq2, -⟩ := id hrr
  obtain ⟨ha, hc, rfl, hh1, hh2, -⟩ := id hrg
  obtain ⟨a0, a1, a2, a3, rfl⟩ := list4 hz1
  obtain ⟨b0, b1, b2, b3, rfl⟩ := list4 hz2
  have HZ1 := hide (fun (L : List StepD) (Lv : Value) (W : World) (hs : StepsIn W.cell? Lv L) (h1 : L.length ≤ 10000) (h2 : OkL 1 L) => bent_any 1 L Lv [a0, a1, a2, a3] W hs h1 (by omega) h2 rfl hz164)
  have HZ2 := hide (fun (L : List StepD) (Lv : Value) (W : World) (hs : StepsIn W.cell? Lv L) (h1 : L.length ≤ 10000) (h2 : OkL 2 L) => bent_any 2 L Lv [b0, b1, b2, b3] W hs h1 (by omega) h2 rfl hz264)
  have HSM := hide (fun (W : World) (h : Below w.heap.size w W) => some_any raw _ _ W (hrr.below h) (hrg.below h))
  obtain ⟨P, hP⟩ : ∃ P, pickF m 7 = P := ⟨_, rfl⟩
  have hP1 : 0 ≤ P := by rw [← hP]; exact pickF_nonneg m (by decide)
  have hP2 : P < 7 := by rw [← hP]; exact pickF_lt m (by decide)
  have HPK := hide (fun W => pickp_any m 7 W hm.1 hm.2 (by omega) (by omega))
  rw [hP] at HPK
  clear hP
  have HL := hide hl
  have HSL := hide (someF_len raw)
  obtain ⟨g0, g1, g2, g3, g4, g5, g6, g7, rfl⟩ : ∃ g0 g1 g2 g3 g4 g5 g6 g7, g = [g0, g1, g2, g3, g4, g5, g6, g7] := by
    match g, hg with
    | [a, b, c, d, e, f, g, h], _ => exact ⟨_, _, _, _, _, _, _, _, rfl⟩
  obtain ⟨xa, xn, rfl, hx1, hx2, -⟩ := id hx
  have HM := hide (fun W (h : Below w.heap.size w W) => made_any v x (.slice xa x.length xn) [g0, g1, g2, g3, g4, g5, g6, g7] W hv (TrisIn.keeps (keeps_of_below h) hx) hx64 hg hg64)
  clear hx hx64 hg hg64
  clear hz1 hz2 hz164 hz264 hl hrr hrg hq1 hq2 hh1 hh2
  go_enter Try.func3, Try.ntmps3
  go_wp2_with fail
  generalize hX1 : World.alloc w _ = X1
  have zX1 : X1.heap.size = w.heap.size + 1 := by rw [← hX1]; simp
  have bX1 : Below w.heap.size w X1 := by rw [← hX1]; exact bal w _
  have bG_1 : Blk X1 (w.heap.size) [.int .i64 g0, .int .i64 g1, .int .i64 g2, .int .i64 g3, .int .i64 g4, .int .i64 g5, .int .i64 g6, .int .i64 g7] 23 := by rw [← hX1]; exact Blk.newA w _ (by first | rfl | simp)
  generalize hX2 : World.alloc X1 _ = X2
  have zX2 : X2.heap.size = w.heap.size + 1 + 1 := by rw [← hX2]; simp [zX1]
  have bX2 : Below X1.heap.size X1 X2 := by rw [← hX2]; exact bal X1 _
  have bR_2 : Blk X2 (w.heap.size + 1) [.int .i64 raw.vars, .slice qa raw.rows.length qc, .slice ha raw.gain.length hc] 27 := by rw [← hX2, ← zX1]; exact Blk.newA X1 _ (by first | rfl | simp)
  have bG_2 := bG_1.later bX2
  generalize hX3 : World.alloc X2 _ = X3
  have zX3 : X3.heap.size = w.heap.size + 1 + 1 + 1 := by rw [← hX3]; simp [zX2]
  have bX3 : Below X2.heap.size X2 X3 := by rw [← hX3]; exact bal X2 _
  have bZ : Blk X3 (w.heap.size + 1 + 1) [.int .i64 a0, .int .i64 a1, .int .i64 a2, .int .i64 a3, .int .i64 b0, .int .i64 b1, .int .i64 b2, .int .i64 b3] 29 := by rw [← hX3, ← zX2]; exact Blk.newA X2 _ (by first | rfl | simp)
  have bG := bG_2.later bX3
  have bR := bR_2.later bX3
  have Xb := below2 (below2 (bX1) bX2) bX3
  have Xz := zX3
  clear hX1 zX1 bX1 hX2 zX2 bX2 hX3 zX3 bX3 bG_1 bG_2 bR_2
  have hb0 := Xb
  refine (sane34_any _).mono ?_
  rintro e w1 ⟨rfl, hb1⟩
  have bG1 := bG.later hb1
  have c0 := bG1.cell 0 rfl
  have c1 := bG1.cell 1 rfl
  have c2 := bG1.cell 2 rfl
  have c3 := bG1.cell 3 rfl
  have c4 := bG1.cell 4 rfl
  have c5 := bG1.cell 5 rfl
  have c6 := bG1.cell 6 rfl
  have c7 := bG1.cell 7 rfl
  go_wp2_with fail
  refine (HM.out _ (below2 hb0 hb1)).mono ?_
  rintro e w2 ⟨pv, rfl, hpv, hb2⟩
  clear c0 c1 c2 c3 c4 c5 c6 c7 HM bG1 bG
  obtain ⟨n, rows, gain, hmf, hn8, hr8, hV⟩ := made_form v x [g0, g1, g2, g3, g4, g5, g6, g7]
  rw [hmf] at hpv
  clear hmf
  obtain ⟨rv, gv, rfl, hr, hgn⟩ := hpv
  have hr2 : RowsAt w2 rv rows := hr.keeps (keeps_frm _ _)
  have hg2 : IntsAt w2 gv gain := hgn.keeps (keeps_frm _ _)
  obtain ⟨ra, rc, rfl, -, hrm, -⟩ := id hr2
  obtain ⟨ga, gc, rfl, -, hgm, -⟩ := id hg2
  have hbw2 := below2 (below2 hb0 hb1) hb2
  clear hr hgn hb0
  go_wp2_with fail
  generalize hW3 : World.alloc w2 _ = W3
  have bP : Blk W3 w2.heap.size [.int .i64 n, .slice ra rows.length rc, .slice ga gain.length gc] 27 := by rw [← hW3]; exact Blk.new w2 _ _
  have hb3 : Below w2.heap.size w2 W3 := by rw [← hW3]; exact bal w2 _
  have hr3 := hr2.below hb3
  have hg3 := hg2.below hb3
  have hbw3 := below2 hbw2 hb3
  have p0 := bP.cell 0 rfl
  have p1 := bP.cell 1 rfl
  have p2 := bP.cell 2 rfl
  clear hW3 hr2 hg2 hbw2
  have bZ3 := ((bZ.later hb1).later hb2).later hb3
  have bR3 := ((bR.later hb1).later hb2).later hb3
  clear bZ bR
  refine (solver_any ⟨n, rows, gain⟩ _ _ _ hr3 hg3).mono ?_
  rintro e w4 ⟨sv, u, rfl, ⟨⟨pv, rfl, hpv⟩, rfl⟩, hb4⟩
  have hp4 : StepsIn w4.cell? pv (solveF ⟨n, rows, gain⟩).proof := hpv.keeps (keeps_frm _ _)
  rw [errF_in hV, solve_gain hV]
  have hok := proof_ok hV
  have hbd := best_bd hV
  have HGL : Hid (gain.length ≤ 1000) := hide (by obtain ⟨-, -, -, -, h1, -⟩ := valid_parts hV; have : (gain.length : Int) = n := h1; omega)
  generalize (solveF ⟨n, rows, gain⟩).proof = PL at *
  generalize (solveF ⟨n, rows, gain⟩).set = bs
  generalize (solveF ⟨n, rows, gain⟩).found = bf
  generalize (bestF ⟨n, rows, gain⟩).gain = G at *
  obtain ⟨pa, pn, rfl, hp1, hp2, -⟩ := id hp4
  go_upto_region 6 with (fail)
  generalize hS1 : World.alloc w4 _ = S1
  have zS1 : S1.heap.size = w4.heap.size + 1 := by rw [← hS1]; simp
  have bS1 : Below w4.heap.size w4 S1 := by rw [← hS1]; exact bal w4 _
  have bS : Blk S1 (w4.heap.size) [.bool bf, .int .i64 bs, .int .i64 G, .slice pa PL.length pn] 34 := by rw [← hS1]; exact Blk.newA w4 _ (by first | rfl | simp)
  have Sb := bS1
  have Sz := zS1
  clear hS1 zS1 bS1
  have hb3S := below2 hb4 Sb
  have hwS := below2 hbw3 hb3S
  replace hp4 := hp4.keeps (keeps_of_below Sb)
  have hr4 := hr3.below hb3S
  have hg4 := hg3.below hb3S
  have bP4 := bP.later hb3S
  have bZ4 := bZ3.later hb3S
  have bR4 := bR3.later hb3S
  clear bP bZ3 bR3 hr3 hg3 p0 p1 p2 hb3S hpv hV
  have s3 := bS.cell 3 rfl
  have q0 := bZ4.cell 0 rfl
  have q1 := bZ4.cell 1 rfl
  have q2 := bZ4.cell 2 rfl
  have q3 := bZ4.cell 3 rfl
  go_wp2_with fail
  refine (HZ1.out PL _ _ hp4 (by omega) hok.1).mono ?_
  rintro e wA ⟨bv, l1, rfl, hsA, hbA, hlA, -, hokA⟩
  obtain ⟨ua, un, rfl, hu1, hu2, -⟩ := id hsA
  have hwA := below2 hwS hbA
  have bPA := bP4.later hbA
  have bRA := bR4.later hbA
  have bSA := bS.later hbA
  have bZA := bZ4.later hbA
  have HRA := hide (hr4.below hbA)
  have HGA := hide (hg4.below hbA)
  have p0 := bPA.cell 0 rfl
  have p1 := bPA.cell 1 rfl
  have p2 := bPA.cell 2 rfl
  have r0 := bRA.cell 0 rfl
  have r1 := bRA.cell 1 rfl
  have r2 := bRA.cell 2 rfl
  have HWA := hide hwA
  have HR8 := hide hr8
  have hpl : PL.length ≤ 8192 := hok.2.1
  have hl1l : l1.length ≤ 10000 := by omega
  have hb12 := hbd.1
  have hb13 := hbd.2
  have HPL := hide (hp4.keeps (keeps_of_below hbA))
  have HSA := hide hsA
  have HOA := hide hokA
  clear hp4 hok hbd hlA hsA hokA bP4 bR4 bS bZ4 hr4 hg4 hwA hwS hbA s3 q0 q1 q2 q3 hb1 hb2 hb3 hb4 Sb Sz hbw3 HZ1 hr8 hp1 hp2 hu1 hu2 hrm hgm hn8
  go_wp2_with fail
  refine wp_region_inv [some 49, some 50, some 51, some 52, some 53, some 54] (fun L vs W => match vs with | [x0, x1, x2, x3, x4, x5] => (Below wA.heap.size wA W) ∧ (L 0 = true → x0 = .agg #[.int .i64 n, .slice ra rows.length rc, .slice ga gain.length gc]) ∧ (L 1 = true → x1 = .agg #[.int .i64 raw.vars, .slice qa raw.rows.length qc, .slice ha raw.gain.length hc]) ∧ (L 2 = true → ∃ ra1 rc1 ga1 gc1, x2 = .agg #[.int .i64 (someF raw).vars, .slice ra1 (someF raw).rows.length rc1, .slice ga1 (someF raw).gain.length gc1] ∧ RowsAt W (.slice ra1 (someF raw).rows.length rc1) (someF raw).rows ∧ IntsAt W (.slice ga1 (someF raw).gain.length gc1) (someF raw).gain) ∧ (L 3 = true → TwoAt W x3) ∧ (L 4 = true → x4 = .int .i64 2) ∧ (L 5 = true → x5 = .int .i64 0) | _ => False) [_, _, _, _, _, _] (by kernel_rfl) (by kernel_rfl) rfl (by simp only [puts, Act.put, List.setIfInBounds_toArray, List.set_cons_zero, List.set_cons_succ] <;> rfl) ?_ ?_ ?_
  · exact ⟨(Below.refl _ _).drew, (fun h => by cases h), (fun h => by cases h), (fun h => by cases h), (fun h => by cases h), (fun h => by cases h), (fun h => by cases h)⟩
  · refine ⟨?_, ?_, ?_, ?_, ?_, ?_, trivial⟩
    · intro L vs W hlen hL hD hI K hK
      obtain ⟨x0, x1, x2, x3, x4, x5, rfl⟩ := len6 hlen
      have hG := hI.1
      replace hI := hI.2
      have f0 := hide hI.1
      replace hI := hI.2
      have f1 := hide hI.1
      replace hI := hI.2
      have f2 := hide hI.1
      replace hI := hI.2
      have f3 := hide hI.1
      replace hI := hI.2
      have f4 := hide hI.1
      replace hI := hI.2
      have f5 := hide hI
      clear hI
      have p0 := keep hG p0
      have p1 := keep hG p1
      have p2 := keep hG p2
      have r0 := keep hG r0
      have r1 := keep hG r1
      have r2 := keep hG r2
      try simp only [puts, Act.put, List.setIfInBounds_toArray, List.set_cons_zero, List.set_cons_succ]
      try go_simp
      exact hK.out _ _ _ (by simp only [puts, Act.put, List.setIfInBounds_toArray, List.set_cons_zero, List.set_cons_succ] <;> rfl) ⟨hG, (fun _ => rfl), (fun h => f1.out h), (fun h => f2.out h), (fun h => f3.out h), (fun h => f4.out h), (fun h => f5.out h)⟩
    · intro L vs W hlen hL hD hI K hK
      obtain ⟨x0, x1, x2, x3, x4, x5, rfl⟩ := len6 hlen
      have hG := hI.1
      replace hI := hI.2
      have f0 := hide hI.1
      replace hI := hI.2
      have f1 := hide hI.1
      replace hI := hI.2
      have f2 := hide hI.1
      replace hI := hI.2
      have f3 := hide hI.1
      replace hI := hI.2
      have f4 := hide hI.1
      replace hI := hI.2
      have f5 := hide hI
      clear hI
      have p0 := keep hG p0
      have p1 := keep hG p1
      have p2 := keep hG p2
      have r0 := keep hG r0
      have r1 := keep hG r1
      have r2 := keep hG r2
      try simp only [puts, Act.put, List.setIfInBounds_toArray, List.set_cons_zero, List.set_cons_succ]
      try go_simp
      exact hK.out _ _ _ (by simp only [puts, Act.put, List.setIfInBounds_toArray, List.set_cons_zero, List.set_cons_succ] <;> rfl) ⟨hG, (fun h => f0.out h), (fun _ => rfl), (fun h => f2.out h), (fun h => f3.out h), (fun h => f4.out h), (fun h => f5.out h)⟩
    · intro L vs W hlen hL hD hI K hK
      obtain ⟨x0, x1, x2, x3, x4, x5, rfl⟩ := len6 hlen
      have hG := hI.1
      replace hI := hI.2
      have f0 := hide hI.1
      replace hI := hI.2
      have f1 := hide hI.1
      replace hI := hI.2
      have f2 := hide hI.1
      replace hI := hI.2
      have f3 := hide hI.1
      replace hI := hI.2
      have f4 := hide hI.1
      replace hI := hI.2
      have f5 := hide hI
      clear hI
      have p0 := keep hG p0
      have p1 := keep hG p1
      have p2 := keep hG p2
      have r0 := keep hG r0
      have r1 := keep hG r1
      have r2 := keep hG r2
      obtain rfl := f1.out (hD.on 1 (by kernel_rfl))
      try simp only [puts, Act.put, List.setIfInBounds_toArray, List.set_cons_zero, List.set_cons_succ]
      try go_simp
      refine (HSM.out W (below2 HWA.out hG)).mono ?_
      rintro e W' ⟨rv', gv', rfl, hrv', hgv', hbb⟩
      obtain ⟨ra1, rc1, rfl, -⟩ := id hrv'
      obtain ⟨ga1, gc1, rfl, -⟩ := id hgv'
      try go_simp
      have hb := hbb
      exact hK.out _ _ _ (by simp only [puts, Act.put, List.setIfInBounds_toArray, List.set_cons_zero, List.set_cons_succ] <;> rfl) ⟨below2 hG hb, (fun h => f0.out h), (fun h => f1.out h), (fun _ => ⟨_, _, _, _, rfl, hrv', hgv'⟩), (fun h => (fun h => h.below hb) (f3.out h)), (fun h => f4.out h), (fun h => f5.out h)⟩
    · intro L vs W hlen hL hD hI K hK
      obtain ⟨x0, x1, x2, x3, x4, x5, rfl⟩ := len6 hlen
      have hG := hI.1
      replace hI := hI.2
      have f0 := hide hI.1
      replace hI := hI.2
      have f1 := hide hI.1
      replace hI := hI.2
      have f2 := hide hI.1
      replace hI := hI.2
      have f3 := hide hI.1
      replace hI := hI.2
      have f4 := hide hI.1
      replace hI := hI.2
      have f5 := hide hI
      clear hI
      have p0 := keep hG p0
      have p1 := keep hG p1
      have p2 := keep hG p2
      have r0 := keep hG r0
      have r1 := keep hG r1
      have r2 := keep hG r2
      obtain rfl := f0.out (hD.on 0 (by kernel_rfl))
      have g2 := f2.out (hD.on 2 (by kernel_rfl))
      try simp only [puts, Act.put, List.setIfInBounds_toArray, List.set_cons_zero, List.set_cons_succ]
      obtain ⟨ra1, rc1, ga1, gc1, rfl, h1, h2⟩ := g2
      go_simp
      generalize hW' : World.alloc W _ = W'
      have hb : Below W.heap.size W W' := by rw [← hW']; exact bal W _
      exact hK.out _ _ _ (by simp only [puts, Act.put, List.setIfInBounds_toArray, List.set_cons_zero, List.set_cons_succ] <;> rfl) ⟨below2 hG hb, (fun h => f0.out h), (fun h => f1.out h), (fun h => (fun h => (let ⟨a, b, c, d, e, f, g⟩ := h; ⟨a, b, c, d, e, f.below hb, g.below hb⟩)) (f2.out h)), (fun _ => TwoAt.make (p := ⟨n, rows, gain⟩) (q := someF raw) (b := W.heap.size) (by rw [← hW'] ; exact Blk.newA W _ rfl) ((HRA.out.below hG).below hb) ((HGA.out.below hG).below hb) (h1.below hb) (h2.below hb) ⟨by have := HR8.out ; show rows.length ≤ 1000 ; omega, HGL.out⟩ HSL.out), (fun h => f4.out h), (fun h => f5.out h)⟩
    · intro L vs W hlen hL hD hI K hK
      obtain ⟨x0, x1, x2, x3, x4, x5, rfl⟩ := len6 hlen
      have hG := hI.1
      replace hI := hI.2
      have f0 := hide hI.1
      replace hI := hI.2
      have f1 := hide hI.1
      replace hI := hI.2
      have f2 := hide hI.1
      replace hI := hI.2
      have f3 := hide hI.1
      replace hI := hI.2
      have f4 := hide hI.1
      replace hI := hI.2
      have f5 := hide hI
      clear hI
      have p0 := keep hG p0
      have p1 := keep hG p1
      have p2 := keep hG p2
      have r0 := keep hG r0
      have r1 := keep hG r1
      have r2 := keep hG r2
      have g3 := f3.out (hD.on 3 (by kernel_rfl))
      try simp only [puts, Act.put, List.setIfInBounds_toArray, List.set_cons_zero, List.set_cons_succ]
      obtain ⟨b9, rfl, h9⟩ := g3
      go_simp
      exact hK.out _ _ _ (by simp only [puts, Act.put, List.setIfInBounds_toArray, List.set_cons_zero, List.set_cons_succ] <;> rfl) ⟨hG, (fun h => f0.out h), (fun h => f1.out h), (fun h => f2.out h), (fun h => f3.out h), (fun _ => rfl), (fun h => f5.out h)⟩
    · intro L vs W hlen hL hD hI K hK
      obtain ⟨x0, x1, x2, x3, x4, x5, rfl⟩ := len6 hlen
      have hG := hI.1
      replace hI := hI.2
      have f0 := hide hI.1
      replace hI := hI.2
      have f1 := hide hI.1
      replace hI := hI.2
      have f2 := hide hI.1
      replace hI := hI.2
      have f3 := hide hI.1
      replace hI := hI.2
      have f4 := hide hI.1
      replace hI := hI.2
      have f5 := hide hI
      clear hI
      have p0 := keep hG p0
      have p1 := keep hG p1
      have p2 := keep hG p2
      have r0 := keep hG r0
      have r1 := keep hG r1
      have r2 := keep hG r2
      try simp only [puts, Act.put, List.setIfInBounds_toArray, List.set_cons_zero, List.set_cons_succ]
      try go_simp
      exact hK.out _ _ _ (by simp only [puts, Act.put, List.setIfInBounds_toArray, List.set_cons_zero, List.set_cons_succ] <;> rfl) ⟨hG, (fun h => f0.out h), (fun h => f1.out h), (fun h => f2.out h), (fun h => f3.out h), (fun h => f4.out h), (fun _ => rfl)⟩
  intro L vs W hlen hall hI
  obtain ⟨x0, x1, x2, x3, x4, x5, rfl⟩ := len6 hlen
  have hG := hI.1
  replace hI := hI.2
  have f0 := hide hI.1
  replace hI := hI.2
  have f1 := hide hI.1
  replace hI := hI.2
  have f2 := hide hI.1
  replace hI := hI.2
  have f3 := hide hI.1
  replace hI := hI.2
  have f4 := hide hI.1
  replace hI := hI.2
  have f5 := hide hI
  clear hI
  obtain rfl := f0.out (hall 0 (by decide))
  obtain rfl := f1.out (hall 1 (by decide))
  have g2 := f2.out (hall 2 (by decide))
  have g3 := f3.out (hall 3 (by decide))
  obtain rfl := f4.out (hall 4 (by decide))
  obtain rfl := f5.out (hall 5 (by decide))
  have hal := hide hall
  clear hall f0 f1 f2 f3 f4 f5
  try simp only [puts, Act.put, List.setIfInBounds_toArray, List.set_cons_zero, List.set_cons_succ]
  obtain ⟨b3', rfl, h3'⟩ := g3
  obtain ⟨B1, rfl⟩ : ∃ W', W' = W := ⟨_, rfl⟩
  have HTW := hide h3'
  have HSP := hide (HPL.out.keeps (keeps_of_below hG))
  have HS1 := hide (HSA.out.keeps (keeps_of_below hG))
  have HLB := hide ((HL.out.keeps (keeps_of_below HWA.out)).keeps (keeps_of_below hG))
  have HB1 := hide (below2 HWA.out hG)
  have HBS := hide ((bSA.later hG : Blk B1 _ _ _))
  have HBZ := hide ((bZA.later hG : Blk B1 _ _ _))
  have hpI : (PL.length : Int) ≤ 9223372036854775807 := by omega
  clear g2 h3' hG p0 p1 p2 r0 r1 r2 bPA bRA bSA bZA HPL HSA HRA HGA HWA HL HSM
  go_wp2_with fail
  go_loopw [54] (fun i wr => ∃ k : Nat, k ≤ 2 ∧ i = .int .i64 k ∧ Below B1.heap.size B1 wr) (fun i _ => 2 - (intOf i).toNat)
  case atStart => exact ⟨0, by omega, rfl, Below.refl _ _⟩
  case round =>
    obtain ⟨k, hk2, rfl, hbr⟩ := hrel
    by_cases hk : k < 2
    · have hkd : decide ((k : Int) < 2) = true := by simp; omega
      obtain ⟨q, qa1, qc1, ha1, hc1, k0, k1, k2, hqr, hqg, hql1, hql2⟩ := HTW.out k hk
      replace k0 := keep hbr k0
      replace k1 := keep hbr k1
      replace k2 := keep hbr k2
      go_upto_region 12 with (fail)
      generalize hA1 : World.alloc wr _ = A1
      have zA1 : A1.heap.size = wr.heap.size + 1 := by rw [← hA1]; simp
      have bA1 : Below wr.heap.size wr A1 := by rw [← hA1]; exact bal wr _
      have bA : Blk A1 (wr.heap.size) [.int .i64 q.vars, .slice qa1 q.rows.length qc1, .slice ha1 q.gain.length hc1] 27 := by rw [← hA1]; exact Blk.newA wr _ (by first | rfl | simp)
      have Ab := bA1
      have Az := zA1
      clear hA1 zA1 bA1
      have hbA := below2 hbr Ab
      have bSA := HBS.out.later hbA
      have bZA := HBZ.out.later hbA
      have y3 := bSA.cell 3 rfl
      have q4 := bZA.cell 4 rfl
      have q5 := bZA.cell 5 rfl
      have q6 := bZA.cell 6 rfl
      have q7 := bZA.cell 7 rfl
      have HPA := hide (HSP.out.keeps (keeps_of_below hbA))
      have HSA := hide (HS1.out.keeps (keeps_of_below hbA))
      have HLA := hide (HLB.out.keeps (keeps_of_below hbA))
      have HQR := hide (hqr.below hbA)
      have HQG := hide (hqg.below hbA)
      have HBA := hide hbA
      clear k0 k1 k2 hqr hqg hbr Ab Az bSA bZA
      go_wp2_with fail
      refine wp_region_inv [some 58, some 59, some 60, some 61, some 62, some 63, some 64, some 65, some 66, some 67, some 68, some 69] (fun L vs W => match vs with | [x0, x1, x2, x3, x4, x5, x6, x7, x8, x9, x10, x11] => (Below A1.heap.size A1 W) ∧ (L 0 = true → x0 = .pointer (some ⟨w4.heap.size, 3, none⟩)) ∧ (L 1 = true → x1 = .slice pa PL.length pn) ∧ (L 2 = true → x2 = .slice ua l1.length un) ∧ (L 3 = true → x3 = .slice ua l1.length un) ∧ (L 4 = true → x4 = .pointer (some ⟨w.heap.size + 1 + 1, 4, none⟩)) ∧ (L 5 = true → x5 = .agg #[.int .i64 b0, .int .i64 b1, .int .i64 b2, .int .i64 b3]) ∧ (L 6 = true → ∃ l2, StepsIn W.cell? x6 l2) ∧ (L 7 = true → x7 = .slice la l.length ln) ∧ (L 8 = true → ∃ l2, StepsIn W.cell? x8 l2) ∧ (L 9 = true → FourAt W x9) ∧ (L 10 = true → x10 = .int .i64 4) ∧ (L 11 = true → x11 = .int .i64 0) | _ => False) [_, _, _, _, _, _, _, _, _, _, _, _] (by kernel_rfl) (by kernel_rfl) rfl (by simp only [puts, Act.put, List.setIfInBounds_toArray, List.set_cons_zero, List.set_cons_succ] <;> rfl) ?_ ?_ ?_
      · exact ⟨(Below.refl _ _).drew, (fun h => by cases h), (fun h => by cases h), (fun h => by cases h), (fun h => by cases h), (fun h => by cases h), (fun h => by cases h), (fun h => by cases h), (fun h => by cases h), (fun h => by cases h), (fun h => by cases h), (fun h => by cases h), (fun h => by cases h)⟩
      · refine ⟨?_, ?_, ?_, ?_, ?_, ?_, ?_, ?_, ?_, ?_, ?_, ?_, trivial⟩
        · intro L vs W hlen hL hD hI K hK
          obtain ⟨x0, x1, x2, x3, x4, x5, x6, x7, x8, x9, x10, x11, rfl⟩ := len12 hlen
          have hG := hI.1
          replace hI := hI.2
          have f0 := hide hI.1
          replace hI := hI.2
          have f1 := hide hI.1
          replace hI := hI.2
          have f2 := hide hI.1
          replace hI := hI.2
          have f3 := hide hI.1
          replace hI := hI.2
          have f4 := hide hI.1
          replace hI := hI.2
          have f5 := hide hI.1
          replace hI := hI.2
          have f6 := hide hI.1
          replace hI := hI.2
          have f7 := hide hI.1
          replace hI := hI.2
          have f8 := hide hI.1
          replace hI := hI.2
          have f9 := hide hI.1
          replace hI := hI.2
          have f10 := hide hI.1
          replace hI := hI.2
          have f11 := hide hI
          clear hI
          have y3 := keep hG y3
          have q4 := keep hG q4
          have q5 := keep hG q5
          have q6 := keep hG q6
          have q7 := keep hG q7
          try simp only [puts, Act.put, List.setIfInBounds_toArray, List.set_cons_zero, List.set_cons_succ]
          try go_simp
          exact hK.out _ _ _ (by simp only [puts, Act.put, List.setIfInBounds_toArray, List.set_cons_zero, List.set_cons_succ] <;> rfl) ⟨hG, (fun _ => rfl), (fun h => f1.out h), (fun h => f2.out h), (fun h => f3.out h), (fun h => f4.out h), (fun h => f5.out h), (fun h => f6.out h), (fun h => f7.out h), (fun h => f8.out h), (fun h => f9.out h), (fun h => f10.out h), (fun h => f11.out h)⟩
        · intro L vs W hlen hL hD hI K hK
          obtain ⟨x0, x1, x2, x3, x4, x5, x6, x7, x8, x9, x10, x11, rfl⟩ := len12 hlen
          have hG := hI.1
          replace hI := hI.2
          have f0 := hide hI.1
          replace hI := hI.2
          have f1 := hide hI.1
          replace hI := hI.2
          have f2 := hide hI.1
          replace hI := hI.2
          have f3 := hide hI.1
          replace hI := hI.2
          have f4 := hide hI.1
          replace hI := hI.2
          have f5 := hide hI.1
          replace hI := hI.2
          have f6 := hide hI.1
          replace hI := hI.2
          have f7 := hide hI.1
          replace hI := hI.2
          have f8 := hide hI.1
          replace hI := hI.2
          have f9 := hide hI.1
          replace hI := hI.2
          have f10 := hide hI.1
          replace hI := hI.2
          have f11 := hide hI
          clear hI
          have y3 := keep hG y3
          have q4 := keep hG q4
          have q5 := keep hG q5
          have q6 := keep hG q6
          have q7 := keep hG q7
          obtain rfl := f0.out (hD.on 0 (by kernel_rfl))
          try simp only [puts, Act.put, List.setIfInBounds_toArray, List.set_cons_zero, List.set_cons_succ]
          try go_simp
          exact hK.out _ _ _ (by simp only [puts, Act.put, List.setIfInBounds_toArray, List.set_cons_zero, List.set_cons_succ] <;> rfl) ⟨hG, (fun h => f0.out h), (fun _ => rfl), (fun h => f2.out h), (fun h => f3.out h), (fun h => f4.out h), (fun h => f5.out h), (fun h => f6.out h), (fun h => f7.out h), (fun h => f8.out h), (fun h => f9.out h), (fun h => f10.out h), (fun h => f11.out h)⟩
        · intro L vs W hlen hL hD hI K hK
          obtain ⟨x0, x1, x2, x3, x4, x5, x6, x7, x8, x9, x10, x11, rfl⟩ := len12 hlen
          have hG := hI.1
          replace hI := hI.2
          have f0 := hide hI.1
          replace hI := hI.2
          have f1 := hide hI.1
          replace hI := hI.2
          have f2 := hide hI.1
          replace hI := hI.2
          have f3 := hide hI.1
          replace hI := hI.2
          have f4 := hide hI.1
          replace hI := hI.2
          have f5 := hide hI.1
          replace hI := hI.2
          have f6 := hide hI.1
          replace hI := hI.2
          have f7 := hide hI.1
          replace hI := hI.2
          have f8 := hide hI.1
          replace hI := hI.2
          have f9 := hide hI.1
          replace hI := hI.2
          have f10 := hide hI.1
          replace hI := hI.2
          have f11 := hide hI
          clear hI
          have y3 := keep hG y3
          have q4 := keep hG q4
          have q5 := keep hG q5
          have q6 := keep hG q6
          have q7 := keep hG q7
          try simp only [puts, Act.put, List.setIfInBounds_toArray, List.set_cons_zero, List.set_cons_succ]
          try go_simp
          exact hK.out _ _ _ (by simp only [puts, Act.put, List.setIfInBounds_toArray, List.set_cons_zero, List.set_cons_succ] <;> rfl) ⟨hG, (fun h => f0.out h), (fun h => f1.out h), (fun _ => rfl), (fun h => f3.out h), (fun h => f4.out h), (fun h => f5.out h), (fun h => f6.out h), (fun h => f7.out h), (fun h => f8.out h), (fun h => f9.out h), (fun h => f10.out h), (fun h => f11.out h)⟩
        · intro L vs W hlen hL hD hI K hK
          obtain ⟨x0, x1, x2, x3, x4, x5, x6, x7, x8, x9, x10, x11, rfl⟩ := len12 hlen
          have hG := hI.1
          replace hI := hI.2
          have f0 := hide hI.1
          replace hI := hI.2
          have f1 := hide hI.1
          replace hI := hI.2
          have f2 := hide hI.1
          replace hI := hI.2
          have f3 := hide hI.1
          replace hI := hI.2
          have f4 := hide hI.1
          replace hI := hI.2
          have f5 := hide hI.1
          replace hI := hI.2
          have f6 := hide hI.1
          replace hI := hI.2
          have f7 := hide hI.1
          replace hI := hI.2
          have f8 := hide hI.1
          replace hI := hI.2
          have f9 := hide hI.1
          replace hI := hI.2
          have f10 := hide hI.1
          replace hI := hI.2
          have f11 := hide hI
          clear hI
          have y3 := keep hG y3
          have q4 := keep hG q4
          have q5 := keep hG q5
          have q6 := keep hG q6
          have q7 := keep hG q7
          try simp only [puts, Act.put, List.setIfInBounds_toArray, List.set_cons_zero, List.set_cons_succ]
          try go_simp
          exact hK.out _ _ _ (by simp only [puts, Act.put, List.setIfInBounds_toArray, List.set_cons_zero, List.set_cons_succ] <;> rfl) ⟨hG, (fun h => f0.out h), (fun h => f1.out h), (fun h => f2.out h), (fun _ => rfl), (fun h => f4.out h), (fun h => f5.out h), (fun h => f6.out h), (fun h => f7.out h), (fun h => f8.out h), (fun h => f9.out h), (fun h => f10.out h), (fun h => f11.out h)⟩
        · intro L vs W hlen hL hD hI K hK
          obtain ⟨x0, x1, x2, x3, x4, x5, x6, x7, x8, x9, x10, x11, rfl⟩ := len12 hlen
          have hG := hI.1
          replace hI := hI.2
          have f0 := hide hI.1
          replace hI := hI.2
          have f1 := hide hI.1
          replace hI := hI.2
          have f2 := hide hI.1
          replace hI := hI.2
          have f3 := hide hI.1
          replace hI := hI.2
          have f4 := hide hI.1
          replace hI := hI.2
          have f5 := hide hI.1
          replace hI := hI.2
          have f6 := hide hI.1
          replace hI := hI.2
          have f7 := hide hI.1
          replace hI := hI.2
          have f8 := hide hI.1
          replace hI := hI.2
          have f9 := hide hI.1
          replace hI := hI.2
          have f10 := hide hI.1
          replace hI := hI.2
          have f11 := hide hI
          clear hI
          have y3 := keep hG y3
          have q4 := keep hG q4
          have q5 := keep hG q5
          have q6 := keep hG q6
          have q7 := keep hG q7
          try simp only [puts, Act.put, List.setIfInBounds_toArray, List.set_cons_zero, List.set_cons_succ]
          try go_simp
          exact hK.out _ _ _ (by simp only [puts, Act.put, List.setIfInBounds_toArray, List.set_cons_zero, List.set_cons_succ] <;> rfl) ⟨hG, (fun h => f0.out h), (fun h => f1.out h), (fun h => f2.out h), (fun h => f3.out h), (fun _ => rfl), (fun h => f5.out h), (fun h => f6.out h), (fun h => f7.out h), (fun h => f8.out h), (fun h => f9.out h), (fun h => f10.out h), (fun h => f11.out h)⟩
        · intro L vs W hlen hL hD hI K hK
          obtain ⟨x0, x1, x2, x3, x4, x5, x6, x7, x8, x9, x10, x11, rfl⟩ := len12 hlen
          have hG := hI.1
          replace hI := hI.2
          have f0 := hide hI.1
          replace hI := hI.2
          have f1 := hide hI.1
          replace hI := hI.2
          have f2 := hide hI.1
          replace hI := hI.2
          have f3 := hide hI.1
          replace hI := hI.2
          have f4 := hide hI.1
          replace hI := hI.2
          have f5 := hide hI.1
          replace hI := hI.2
          have f6 := hide hI.1
          replace hI := hI.2
          have f7 := hide hI.1
          replace hI := hI.2
          have f8 := hide hI.1
          replace hI := hI.2
          have f9 := hide hI.1
          replace hI := hI.2
          have f10 := hide hI.1
          replace hI := hI.2
          have f11 := hide hI
          clear hI
          have y3 := keep hG y3
          have q4 := keep hG q4
          have q5 := keep hG q5
          have q6 := keep hG q6
          have q7 := keep hG q7
          obtain rfl := f4.out (hD.on 4 (by kernel_rfl))
          try simp only [puts, Act.put, List.setIfInBounds_toArray, List.set_cons_zero, List.set_cons_succ]
          try go_simp
          exact hK.out _ _ _ (by simp only [puts, Act.put, List.setIfInBounds_toArray, List.set_cons_zero, List.set_cons_succ] <;> rfl) ⟨hG, (fun h => f0.out h), (fun h => f1.out h), (fun h => f2.out h), (fun h => f3.out h), (fun h => f4.out h), (fun _ => rfl), (fun h => f6.out h), (fun h => f7.out h), (fun h => f8.out h), (fun h => f9.out h), (fun h => f10.out h), (fun h => f11.out h)⟩
        · intro L vs W hlen hL hD hI K hK
          obtain ⟨x0, x1, x2, x3, x4, x5, x6, x7, x8, x9, x10, x11, rfl⟩ := len12 hlen
          have hG := hI.1
          replace hI := hI.2
          have f0 := hide hI.1
          replace hI := hI.2
          have f1 := hide hI.1
          replace hI := hI.2
          have f2 := hide hI.1
          replace hI := hI.2
          have f3 := hide hI.1
          replace hI := hI.2
          have f4 := hide hI.1
          replace hI := hI.2
          have f5 := hide hI.1
          replace hI := hI.2
          have f6 := hide hI.1
          replace hI := hI.2
          have f7 := hide hI.1
          replace hI := hI.2
          have f8 := hide hI.1
          replace hI := hI.2
          have f9 := hide hI.1
          replace hI := hI.2
          have f10 := hide hI.1
          replace hI := hI.2
          have f11 := hide hI
          clear hI
          have y3 := keep hG y3
          have q4 := keep hG q4
          have q5 := keep hG q5
          have q6 := keep hG q6
          have q7 := keep hG q7
          obtain rfl := f3.out (hD.on 3 (by kernel_rfl))
          obtain rfl := f5.out (hD.on 5 (by kernel_rfl))
          try simp only [puts, Act.put, List.setIfInBounds_toArray, List.set_cons_zero, List.set_cons_succ]
          try go_simp
          refine (HZ2.out l1 _ W (HSA.out.keeps (keeps_of_below hG)) (by omega) HOA.out).mono ?_
          rintro e W' ⟨v', l2, rfl, hs2, hbb, -⟩
          try go_simp
          have hb := hbb
          exact hK.out _ _ _ (by simp only [puts, Act.put, List.setIfInBounds_toArray, List.set_cons_zero, List.set_cons_succ] <;> rfl) ⟨below2 hG hb, (fun h => f0.out h), (fun h => f1.out h), (fun h => f2.out h), (fun h => f3.out h), (fun h => f4.out h), (fun h => f5.out h), (fun _ => ⟨l2, hs2⟩), (fun h => f7.out h), (fun h => (fun h => (let ⟨l2, h2⟩ := h; ⟨l2, h2.keeps (keeps_of_below hb)⟩)) (f8.out h)), (fun h => (fun h => h.below hb) (f9.out h)), (fun h => f10.out h), (fun h => f11.out h)⟩
        · intro L vs W hlen hL hD hI K hK
          obtain ⟨x0, x1, x2, x3, x4, x5, x6, x7, x8, x9, x10, x11, rfl⟩ := len12 hlen
          have hG := hI.1
          replace hI := hI.2
          have f0 := hide hI.1
          replace hI := hI.2
          have f1 := hide hI.1
          replace hI := hI.2
          have f2 := hide hI.1
          replace hI := hI.2
          have f3 := hide hI.1
          replace hI := hI.2
          have f4 := hide hI.1
          replace hI := hI.2
          have f5 := hide hI.1
          replace hI := hI.2
          have f6 := hide hI.1
          replace hI := hI.2
          have f7 := hide hI.1
          replace hI := hI.2
          have f8 := hide hI.1
          replace hI := hI.2
          have f9 := hide hI.1
          replace hI := hI.2
          have f10 := hide hI.1
          replace hI := hI.2
          have f11 := hide hI
          clear hI
          have y3 := keep hG y3
          have q4 := keep hG q4
          have q5 := keep hG q5
          have q6 := keep hG q6
          have q7 := keep hG q7
          try simp only [puts, Act.put, List.setIfInBounds_toArray, List.set_cons_zero, List.set_cons_succ]
          try go_simp
          exact hK.out _ _ _ (by simp only [puts, Act.put, List.setIfInBounds_toArray, List.set_cons_zero, List.set_cons_succ] <;> rfl) ⟨hG, (fun h => f0.out h), (fun h => f1.out h), (fun h => f2.out h), (fun h => f3.out h), (fun h => f4.out h), (fun h => f5.out h), (fun h => f6.out h), (fun _ => rfl), (fun h => f8.out h), (fun h => f9.out h), (fun h => f10.out h), (fun h => f11.out h)⟩
        · intro L vs W hlen hL hD hI K hK
          obtain ⟨x0, x1, x2, x3, x4, x5, x6, x7, x8, x9, x10, x11, rfl⟩ := len12 hlen
          have hG := hI.1
          replace hI := hI.2
          have f0 := hide hI.1
          replace hI := hI.2
          have f1 := hide hI.1
          replace hI := hI.2
          have f2 := hide hI.1
          replace hI := hI.2
          have f3 := hide hI.1
          replace hI := hI.2
          have f4 := hide hI.1
          replace hI := hI.2
          have f5 := hide hI.1
          replace hI := hI.2
          have f6 := hide hI.1
          replace hI := hI.2
          have f7 := hide hI.1
          replace hI := hI.2
          have f8 := hide hI.1
          replace hI := hI.2
          have f9 := hide hI.1
          replace hI := hI.2
          have f10 := hide hI.1
          replace hI := hI.2
          have f11 := hide hI
          clear hI
          have y3 := keep hG y3
          have q4 := keep hG q4
          have q5 := keep hG q5
          have q6 := keep hG q6
          have q7 := keep hG q7
          obtain rfl := f7.out (hD.on 7 (by kernel_rfl))
          try simp only [puts, Act.put, List.setIfInBounds_toArray, List.set_cons_zero, List.set_cons_succ]
          try go_simp
          refine (fews_any l _ W (HLA.out.keeps (keeps_of_below hG))).mono ?_
          rintro e W' ⟨v', rfl, hs2, hbb⟩
          try go_simp
          have hb := hbb
          exact hK.out _ _ _ (by simp only [puts, Act.put, List.setIfInBounds_toArray, List.set_cons_zero, List.set_cons_succ] <;> rfl) ⟨below2 hG hb, (fun h => f0.out h), (fun h => f1.out h), (fun h => f2.out h), (fun h => f3.out h), (fun h => f4.out h), (fun h => f5.out h), (fun h => (fun h => (let ⟨l2, h2⟩ := h; ⟨l2, h2.keeps (keeps_of_below hb)⟩)) (f6.out h)), (fun h => f7.out h), (fun _ => ⟨_, hs2⟩), (fun h => (fun h => h.below hb) (f9.out h)), (fun h => f10.out h), (fun h => f11.out h)⟩
        · intro L vs W hlen hL hD hI K hK
          obtain ⟨x0, x1, x2, x3, x4, x5, x6, x7, x8, x9, x10, x11, rfl⟩ := len12 hlen
          have hG := hI.1
          replace hI := hI.2
          have f0 := hide hI.1
          replace hI := hI.2
          have f1 := hide hI.1
          replace hI := hI.2
          have f2 := hide hI.1
          replace hI := hI.2
          have f3 := hide hI.1
          replace hI := hI.2
          have f4 := hide hI.1
          replace hI := hI.2
          have f5 := hide hI.1
          replace hI := hI.2
          have f6 := hide hI.1
          replace hI := hI.2
          have f7 := hide hI.1
          replace hI := hI.2
          have f8 := hide hI.1
          replace hI := hI.2
          have f9 := hide hI.1
          replace hI := hI.2
          have f10 := hide hI.1
          replace hI := hI.2
          have f11 := hide hI
          clear hI
          have y3 := keep hG y3
          have q4 := keep hG q4
          have q5 := keep hG q5
          have q6 := keep hG q6
          have q7 := keep hG q7
          obtain rfl := f1.out (hD.on 1 (by kernel_rfl))
          obtain rfl := f2.out (hD.on 2 (by kernel_rfl))
          have g6 := f6.out (hD.on 6 (by kernel_rfl))
          have g8 := f8.out (hD.on 8 (by kernel_rfl))
          try simp only [puts, Act.put, List.setIfInBounds_toArray, List.set_cons_zero, List.set_cons_succ]
          obtain ⟨l6, h6⟩ := g6
          obtain ⟨a6, n6, rfl, -⟩ := id h6
          obtain ⟨l8, h8⟩ := g8
          obtain ⟨a8, n8, rfl, -⟩ := id h8
          go_simp
          generalize hW' : World.alloc W _ = W'
          have hb : Below W.heap.size W W' := by rw [← hW']; exact bal W _
          exact hK.out _ _ _ (by simp only [puts, Act.put, List.setIfInBounds_toArray, List.set_cons_zero, List.set_cons_succ] <;> rfl) ⟨below2 hG hb, (fun h => f0.out h), (fun h => f1.out h), (fun h => f2.out h), (fun h => f3.out h), (fun h => f4.out h), (fun h => f5.out h), (fun h => (fun h => (let ⟨l2, h2⟩ := h; ⟨l2, h2.keeps (keeps_of_below hb)⟩)) (f6.out h)), (fun h => f7.out h), (fun h => (fun h => (let ⟨l2, h2⟩ := h; ⟨l2, h2.keeps (keeps_of_below hb)⟩)) (f8.out h)), (fun _ => FourAt.make (b := W.heap.size) (by rw [← hW'] ; exact Blk.newA W _ rfl) ((HPA.out.keeps (keeps_of_below hG)).keeps (keeps_of_below hb)) ((HSA.out.keeps (keeps_of_below hG)).keeps (keeps_of_below hb)) (h6.keeps (keeps_of_below hb)) (h8.keeps (keeps_of_below hb))), (fun h => f10.out h), (fun h => f11.out h)⟩
        · intro L vs W hlen hL hD hI K hK
          obtain ⟨x0, x1, x2, x3, x4, x5, x6, x7, x8, x9, x10, x11, rfl⟩ := len12 hlen
          have hG := hI.1
          replace hI := hI.2
          have f0 := hide hI.1
          replace hI := hI.2
          have f1 := hide hI.1
          replace hI := hI.2
          have f2 := hide hI.1
          replace hI := hI.2
          have f3 := hide hI.1
          replace hI := hI.2
          have f4 := hide hI.1
          replace hI := hI.2
          have f5 := hide hI.1
          replace hI := hI.2
          have f6 := hide hI.1
          replace hI := hI.2
          have f7 := hide hI.1
          replace hI := hI.2
          have f8 := hide hI.1
          replace hI := hI.2
          have f9 := hide hI.1
          replace hI := hI.2
          have f10 := hide hI.1
          replace hI := hI.2
          have f11 := hide hI
          clear hI
          have y3 := keep hG y3
          have q4 := keep hG q4
          have q5 := keep hG q5
          have q6 := keep hG q6
          have q7 := keep hG q7
          have g9 := f9.out (hD.on 9 (by kernel_rfl))
          try simp only [puts, Act.put, List.setIfInBounds_toArray, List.set_cons_zero, List.set_cons_succ]
          obtain ⟨b9, rfl, h9⟩ := g9
          go_simp
          exact hK.out _ _ _ (by simp only [puts, Act.put, List.setIfInBounds_toArray, List.set_cons_zero, List.set_cons_succ] <;> rfl) ⟨hG, (fun h => f0.out h), (fun h => f1.out h), (fun h => f2.out h), (fun h => f3.out h), (fun h => f4.out h), (fun h => f5.out h), (fun h => f6.out h), (fun h => f7.out h), (fun h => f8.out h), (fun h => f9.out h), (fun _ => rfl), (fun h => f11.out h)⟩
        · intro L vs W hlen hL hD hI K hK
          obtain ⟨x0, x1, x2, x3, x4, x5, x6, x7, x8, x9, x10, x11, rfl⟩ := len12 hlen
          have hG := hI.1
          replace hI := hI.2
          have f0 := hide hI.1
          replace hI := hI.2
          have f1 := hide hI.1
          replace hI := hI.2
          have f2 := hide hI.1
          replace hI := hI.2
          have f3 := hide hI.1
          replace hI := hI.2
          have f4 := hide hI.1
          replace hI := hI.2
          have f5 := hide hI.1
          replace hI := hI.2
          have f6 := hide hI.1
          replace hI := hI.2
          have f7 := hide hI.1
          replace hI := hI.2
          have f8 := hide hI.1
          replace hI := hI.2
          have f9 := hide hI.1
          replace hI := hI.2
          have f10 := hide hI.1
          replace hI := hI.2
          have f11 := hide hI
          clear hI
          have y3 := keep hG y3
          have q4 := keep hG q4
          have q5 := keep hG q5
          have q6 := keep hG q6
          have q7 := keep hG q7
          try simp only [puts, Act.put, List.setIfInBounds_toArray, List.set_cons_zero, List.set_cons_succ]
          try go_simp
          exact hK.out _ _ _ (by simp only [puts, Act.put, List.setIfInBounds_toArray, List.set_cons_zero, List.set_cons_succ] <;> rfl) ⟨hG, (fun h => f0.out h), (fun h => f1.out h), (fun h => f2.out h), (fun h => f3.out h), (fun h => f4.out h), (fun h => f5.out h), (fun h => f6.out h), (fun h => f7.out h), (fun h => f8.out h), (fun h => f9.out h), (fun h => f10.out h), (fun _ => rfl)⟩
      intro L vs W hlen hall hI
      obtain ⟨x0, x1, x2, x3, x4, x5, x6, x7, x8, x9, x10, x11, rfl⟩ := len12 hlen
      have hG := hI.1
      replace hI := hI.2
      have f0 := hide hI.1
      replace hI := hI.2
      have f1 := hide hI.1
      replace hI := hI.2
      have f2 := hide hI.1
      replace hI := hI.2
      have f3 := hide hI.1
      replace hI := hI.2
      have f4 := hide hI.1
      replace hI := hI.2
      have f5 := hide hI.1
      replace hI := hI.2
      have f6 := hide hI.1
      replace hI := hI.2
      have f7 := hide hI.1
      replace hI := hI.2
      have f8 := hide hI.1
      replace hI := hI.2
      have f9 := hide hI.1
      replace hI := hI.2
      have f10 := hide hI.1
      replace hI := hI.2
      have f11 := hide hI
      clear hI
      obtain rfl := f0.out (hall 0 (by decide))
      obtain rfl := f1.out (hall 1 (by decide))
      obtain rfl := f2.out (hall 2 (by decide))
      obtain rfl := f3.out (hall 3 (by decide))
      obtain rfl := f4.out (hall 4 (by decide))
      obtain rfl := f5.out (hall 5 (by decide))
      have g6 := f6.out (hall 6 (by decide))
      obtain rfl := f7.out (hall 7 (by decide))
      have g8 := f8.out (hall 8 (by decide))
      have g9 := f9.out (hall 9 (by decide))
      obtain rfl := f10.out (hall 10 (by decide))
      obtain rfl := f11.out (hall 11 (by decide))
      have hal := hide hall
      clear hall f0 f1 f2 f3 f4 f5 f6 f7 f8 f9 f10 f11
      try simp only [puts, Act.put, List.setIfInBounds_toArray, List.set_cons_zero, List.set_cons_succ]
      obtain ⟨b9, rfl, h9⟩ := g9
      obtain ⟨W7, rfl⟩ : ∃ W', W' = W := ⟨_, rfl⟩
      obtain ⟨wq, rfl⟩ : ∃ z, z = wr := ⟨_, rfl⟩
      have hB7 := below2 HBA.out hG
      have HA7 := hide ((bA.later hG : Blk W7 _ _ _))
      have HS7 := hide ((HBS.out.later hB7 : Blk W7 _ _ _))
      have HR7 := hide (HQR.out.below hG)
      have HG7 := hide (HQG.out.below hG)
      have HB7 := hide hB7
      have H9 := hide h9
      clear g6 g8 y3 q4 q5 q6 q7 bA hG hB7 h9 HPA HSA HLA HQR HQG HBA
      go_wp2_with fail
      go_loopw [69] (fun i wr => ∃ j : Nat, j ≤ 4 ∧ i = .int .i64 j ∧ Below W7.heap.size W7 wr) (fun i _ => 4 - (intOf i).toNat)
      case atStart => exact ⟨0, by omega, rfl, Below.refl _ _⟩
      case round =>
        obtain ⟨j, hj4, rfl, hbj⟩ := hrel
        by_cases hj : j < 4
        · have hjd : decide ((j : Int) < 4) = true := by simp; omega
          obtain ⟨va, vn, Lt, hc, hL⟩ := H9.out j hj
          have hLI : (Lt.length : Int) ≤ 9223372036854775807 := by obtain ⟨_, n9, _, hL1, hL2, -⟩ := id hL; omega
          have HBJ := hide hbj
          replace hc := keep hbj hc
          have hLj := hL.keeps (keeps_of_below hbj)
          go_upto_region 15 with (fail)
          have HQ0 := hide ((HR7.out).below hbj)
          have HQ1 := hide ((HG7.out).below hbj)
          have HLJ := hide hLj
          have HSZ := hide (fun W (h : Below wr.heap.size wr W) => sizep_any Lt _ W (HLJ.out.keeps (keeps_of_below h)))
          have HSR := hide (fun W (h : Below wr.heap.size wr W) => sizeR_any Lt _ W (HLJ.out.keeps (keeps_of_below h)))
          generalize (Lt.length : Int) - leavesN Lt Lt.length = S1' at HSZ HSR
          generalize leavesN Lt Lt.length = S2' at HSZ HSR
          have HF1 := hide (fun W (h : Below wr.heap.size wr W) => refutesp_any q _ _ Lt _ W (HQ0.out.below h) (HQ1.out.below h) (HLJ.out.keeps (keeps_of_below h)))
          have HF2 := hide (fun W (h : Below wr.heap.size wr W) => refutesR_any q _ _ Lt _ W (HQ0.out.below h) (HQ1.out.below h) (HLJ.out.keeps (keeps_of_below h)))
          have HW1 := hide (fun W (h : Below wr.heap.size wr W) => wrong_any q _ _ Lt _ W (HQ0.out.below h) (HQ1.out.below h) (HLJ.out.keeps (keeps_of_below h)))
          have HW2 := hide (fun W (h : Below wr.heap.size wr W) => wrongR_any q _ _ Lt _ W (HQ0.out.below h) (HQ1.out.below h) (HLJ.out.keeps (keeps_of_below h)))
          have HU1 := hide (fun W (h : Below wr.heap.size wr W) => rowsp_any q _ _ Lt _ W (HQ0.out.below h) (HQ1.out.below h) (HLJ.out.keeps (keeps_of_below h)))
          have HU2 := hide (fun W (h : Below wr.heap.size wr W) => rowsR_any q _ _ Lt _ W (HQ0.out.below h) (HQ1.out.below h) (HLJ.out.keeps (keeps_of_below h)))
          have HB1' := hide (fun W g (h : Below wr.heap.size wr W) => bounds_any q _ _ Lt _ g W (HQ0.out.below h) (HQ1.out.below h) (HLJ.out.keeps (keeps_of_below h)) hql1 hql2)
          have HB2' := hide (fun W g (h : Below wr.heap.size wr W) => boundsR_any q _ _ Lt _ g W (HQ0.out.below h) (HQ1.out.below h) (HLJ.out.keeps (keeps_of_below h)))
          generalize refB q Lt = RB at HF1 HF2
          generalize wrongP q Lt = WV at HW1 HW2
          generalize usedP q Lt = US at HU1 HU2
          generalize boundsB q Lt = BF at HB1' HB2'
          have HIN := hide (fun (W : World) (v1 v2 : Value) (h1 : IntsAt W v1 US) (h2 : IntsAt W v2 US) => (by
            have := ints_any US US v1 v2 W h1 h2
            rwa [show intsB US US = true by simp [intsB]] at this : Calls Try.prog 21 #[v1, v2] W (Ret (.bool true) W)))
          have hA := HA7.out.later hbj
          have m0 := hA.cell 0 rfl
          have m1 := hA.cell 1 rfl
          have m2 := hA.cell 2 rfl
          clear hL hLj hA hc
          go_wp2_with fail
          refine (HSZ.out wr (Below.refl _ _)).mono ?_
          rintro e w5 ⟨rfl, hb5⟩
          go_wp2_with fail
          refine (HSR.out w5 hb5).mono ?_
          rintro e w6 ⟨rfl, hb6⟩
          have hb56 := below2 hb5 hb6
          replace m0 := keep hb56 m0
          replace m1 := keep hb56 m1
          replace m2 := keep hb56 m2
          go_wp2_with fail
          refine wp_region_inv [some 83, some 84, some 85, some 86, some 87, some 88, some 89, some 90, some 91, some 92, some 93, some 94, some 95, some 96, some 97, some 98, some 99, some 100, some 101, some 102, some 103, some 104, some 105, some 106, some 107, some 108, some 109, some 110, some 111, some 112, some 113, some 114, some 115, some 116, some 117, some 118] (fun L vs W => match vs with | x0 :: x1 :: x2 :: x3 :: [x4, x5, x6, x7, x8, x9, x10, x11, x12, x13, x14, x15, x16, x17, x18, x19, x20, x21, x22, x23, x24, x25, x26, x27, x28, x29, x30, x31, x32, x33, x34, x35] => (Below w6.heap.size w6 W) ∧ (L 0 = true → x0 = .agg #[.int .i64 q.vars, .slice qa1 q.rows.length qc1, .slice ha1 q.gain.length hc1]) ∧ (L 1 = true → x1 = .slice va Lt.length vn) ∧ (L 2 = true → x2 = .bool RB) ∧ (L 3 = true → x3 = .agg #[.int .i64 q.vars, .slice qa1 q.rows.length qc1, .slice ha1 q.gain.length hc1]) ∧ (L 4 = true → x4 = .slice va Lt.length vn) ∧ (L 5 = true → x5 = .bool RB) ∧ (L 6 = true → x6 = .bool false) ∧ (L 7 = true → x7 = .bool false) ∧ (L 8 = true → x8 = .agg #[.int .i64 q.vars, .slice qa1 q.rows.length qc1, .slice ha1 q.gain.length hc1]) ∧ (L 9 = true → x9 = .slice va Lt.length vn) ∧ (L 10 = true → x10 = .int .i64 WV) ∧ (L 11 = true → x11 = .agg #[.int .i64 q.vars, .slice qa1 q.rows.length qc1, .slice ha1 q.gain.length hc1]) ∧ (L 12 = true → x12 = .slice va Lt.length vn) ∧ (L 13 = true → x13 = .int .i64 WV) ∧ (L 14 = true → x14 = .bool false) ∧ (L 15 = true → x15 = .bool false) ∧ (L 16 = true → x16 = .bool false) ∧ (L 17 = true → x17 = .agg #[.int .i64 q.vars, .slice qa1 q.rows.length qc1, .slice ha1 q.gain.length hc1]) ∧ (L 18 = true → x18 = .slice va Lt.length vn) ∧ (L 19 = true → IntsAt W x19 US) ∧ (L 20 = true → x20 = .agg #[.int .i64 q.vars, .slice qa1 q.rows.length qc1, .slice ha1 q.gain.length hc1]) ∧ (L 21 = true → x21 = .slice va Lt.length vn) ∧ (L 22 = true → IntsAt W x22 US) ∧ (L 23 = true → x23 = .bool true) ∧ (L 24 = true → x24 = .bool false) ∧ (L 25 = true → x25 = .bool false) ∧ (L 26 = true → x26 = .bool false) ∧ (L 27 = true → x27 = .int .i64 S1') ∧ (L 28 = true → x28 = .int .i64 S1') ∧ (L 29 = true → x29 = .bool false) ∧ (L 30 = true → x30 = .bool false) ∧ (L 31 = true → x31 = .bool false) ∧ (L 32 = true → x32 = .int .i64 S2') ∧ (L 33 = true → x33 = .int .i64 S2') ∧ (L 34 = true → x34 = .bool false) ∧ (L 35 = true → x35 = .bool false) | _ => False) [_, _, _, _, _, _, _, _, _, _, _, _, _, _, _, _, _, _, _, _, _, _, _, _, _, _, _, _, _, _, _, _, _, _, _, _] (by kernel_rfl) (by kernel_rfl) rfl (by simp only [puts, Act.put, List.setIfInBounds_toArray, List.set_cons_zero, List.set_cons_succ] <;> rfl) ?_ ?_ ?_
          · exact ⟨(Below.refl _ _).drew, (fun h => by cases h), (fun h => by cases h), (fun h => by cases h), (fun h => by cases h), (fun h => by cases h), (fun h => by cases h), (fun h => by cases h), (fun h => by cases h), (fun h => by cases h), (fun h => by cases h), (fun h => by cases h), (fun h => by cases h), (fun h => by cases h), (fun h => by cases h), (fun h => by cases h), (fun h => by cases h), (fun h => by cases h), (fun h => by cases h), (fun h => by cases h), (fun h => by cases h), (fun h => by cases h), (fun h => by cases h), (fun h => by cases h), (fun h => by cases h), (fun h => by cases h), (fun h => by cases h), (fun h => by cases h), (fun h => by cases h), (fun h => by cases h), (fun h => by cases h), (fun h => by cases h), (fun h => by cases h), (fun h => by cases h), (fun h => by cases h), (fun h => by cases h), (fun h => by cases h)⟩
          · refine ⟨?_, ?_, ?_, ?_, ?_, ?_, ?_, ?_, ?_, ?_, ?_, ?_, ?_, ?_, ?_, ?_, ?_, ?_, ?_, ?_, ?_, ?_, ?_, ?_, ?_, ?_, ?_, ?_, ?_, ?_, ?_, ?_, ?_, ?_, ?_, ?_, trivial⟩
            · intro L vs W hlen hL hD hI K hK
              obtain ⟨x0, x1, x2, x3, x4, x5, x6, x7, x8, x9, x10, x11, x12, x13, x14, x15, x16, x17, x18, x19, x20, x21, x22, x23, x24, x25, x26, x27, x28, x29, x30, x31, x32, x33, x34, x35, rfl⟩ := len36 hlen
              have hG := hI.1
              replace hI := hI.2
              have f0 := hide hI.1
              replace hI := hI.2
              have f1 := hide hI.1
              replace hI := hI.2
              have f2 := hide hI.1
              replace hI := hI.2
              have f3 := hide hI.1
              replace hI := hI.2
              have f4 := hide hI.1
              replace hI := hI.2
              have f5 := hide hI.1
              replace hI := hI.2
              have f6 := hide hI.1
              replace hI := hI.2
              have f7 := hide hI.1
              replace hI := hI.2
              have f8 := hide hI.1
              replace hI := hI.2
              have f9 := hide hI.1
              replace hI := hI.2
              have f10 := hide hI.1
              replace hI := hI.2
              have f11 := hide hI.1
              replace hI := hI.2
              have f12 := hide hI.1
              replace hI := hI.2
              have f13 := hide hI.1
              replace hI := hI.2
              have f14 := hide hI.1
              replace hI := hI.2
              have f15 := hide hI.1
              replace hI := hI.2
              have f16 := hide hI.1
              replace hI := hI.2
              have f17 := hide hI.1
              replace hI := hI.2
              have f18 := hide hI.1
              replace hI := hI.2
              have f19 := hide hI.1
              replace hI := hI.2
              have f20 := hide hI.1
              replace hI := hI.2
              have f21 := hide hI.1
              replace hI := hI.2
              have f22 := hide hI.1
              replace hI := hI.2
              have f23 := hide hI.1
              replace hI := hI.2
              have f24 := hide hI.1
              replace hI := hI.2
              have f25 := hide hI.1
              replace hI := hI.2
              have f26 := hide hI.1
              replace hI := hI.2
              have f27 := hide hI.1
              replace hI := hI.2
              have f28 := hide hI.1
              replace hI := hI.2
              have f29 := hide hI.1
              replace hI := hI.2
              have f30 := hide hI.1
              replace hI := hI.2
              have f31 := hide hI.1
              replace hI := hI.2
              have f32 := hide hI.1
              replace hI := hI.2
              have f33 := hide hI.1
              replace hI := hI.2
              have f34 := hide hI.1
              replace hI := hI.2
              have f35 := hide hI
              clear hI
              have m0 := keep hG m0
              have m1 := keep hG m1
              have m2 := keep hG m2
              try simp only [puts, Act.put, List.setIfInBounds_toArray, List.set_cons_zero, List.set_cons_succ]
              try go_simp
              exact hK.out _ _ _ (by simp only [puts, Act.put, List.setIfInBounds_toArray, List.set_cons_zero, List.set_cons_succ] <;> rfl) ⟨hG, (fun _ => rfl), (fun h => f1.out h), (fun h => f2.out h), (fun h => f3.out h), (fun h => f4.out h), (fun h => f5.out h), (fun h => f6.out h), (fun h => f7.out h), (fun h => f8.out h), (fun h => f9.out h), (fun h => f10.out h), (fun h => f11.out h), (fun h => f12.out h), (fun h => f13.out h), (fun h => f14.out h), (fun h => f15.out h), (fun h => f16.out h), (fun h => f17.out h), (fun h => f18.out h), (fun h => f19.out h), (fun h => f20.out h), (fun h => f21.out h), (fun h => f22.out h), (fun h => f23.out h), (fun h => f24.out h), (fun h => f25.out h), (fun h => f26.out h), (fun h => f27.out h), (fun h => f28.out h), (fun h => f29.out h), (fun h => f30.out h), (fun h => f31.out h), (fun h => f32.out h), (fun h => f33.out h), (fun h => f34.out h), (fun h => f35.out h)⟩
            · intro L vs W hlen hL hD hI K hK
              obtain ⟨x0, x1, x2, x3, x4, x5, x6, x7, x8, x9, x10, x11, x12, x13, x14, x15, x16, x17, x18, x19, x20, x21, x22, x23, x24, x25, x26, x27, x28, x29, x30, x31, x32, x33, x34, x35, rfl⟩ := len36 hlen
              have hG := hI.1
              replace hI := hI.2
              have f0 := hide hI.1
              replace hI := hI.2
              have f1 := hide hI.1
              replace hI := hI.2
              have f2 := hide hI.1
              replace hI := hI.2
              have f3 := hide hI.1
              replace hI := hI.2
              have f4 := hide hI.1
              replace hI := hI.2
              have f5 := hide hI.1
              replace hI := hI.2
              have f6 := hide hI.1
              replace hI := hI.2
              have f7 := hide hI.1
              replace hI := hI.2
              have f8 := hide hI.1
              replace hI := hI.2
              have f9 := hide hI.1
              replace hI := hI.2
              have f10 := hide hI.1
              replace hI := hI.2
              have f11 := hide hI.1
              replace hI := hI.2
              have f12 := hide hI.1
              replace hI := hI.2
              have f13 := hide hI.1
              replace hI := hI.2
              have f14 := hide hI.1
              replace hI := hI.2
              have f15 := hide hI.1
              replace hI := hI.2
              have f16 := hide hI.1
              replace hI := hI.2
              have f17 := hide hI.1
              replace hI := hI.2
              have f18 := hide hI.1
              replace hI := hI.2
              have f19 := hide hI.1
              replace hI := hI.2
              have f20 := hide hI.1
              replace hI := hI.2
              have f21 := hide hI.1
              replace hI := hI.2
              have f22 := hide hI.1
              replace hI := hI.2
              have f23 := hide hI.1
              replace hI := hI.2
              have f24 := hide hI.1
              replace hI := hI.2
              have f25 := hide hI.1
              replace hI := hI.2
              have f26 := hide hI.1
              replace hI := hI.2
              have f27 := hide hI.1
              replace hI := hI.2
              have f28 := hide hI.1
              replace hI := hI.2
              have f29 := hide hI.1
              replace hI := hI.2
              have f30 := hide hI.1
              replace hI := hI.2
              have f31 := hide hI.1
              replace hI := hI.2
              have f32 := hide hI.1
              replace hI := hI.2
              have f33 := hide hI.1
              replace hI := hI.2
              have f34 := hide hI.1
              replace hI := hI.2
              have f35 := hide hI
              clear hI
              have m0 := keep hG m0
              have m1 := keep hG m1
              have m2 := keep hG m2
              try simp only [puts, Act.put, List.setIfInBounds_toArray, List.set_cons_zero, List.set_cons_succ]
              try go_simp
              exact hK.out _ _ _ (by simp only [puts, Act.put, List.setIfInBounds_toArray, List.set_cons_zero, List.set_cons_succ] <;> rfl) ⟨hG, (fun h => f0.out h), (fun _ => rfl), (fun h => f2.out h), (fun h => f3.out h), (fun h => f4.out h), (fun h => f5.out h), (fun h => f6.out h), (fun h => f7.out h), (fun h => f8.out h), (fun h => f9.out h), (fun h => f10.out h), (fun h => f11.out h), (fun h => f12.out h), (fun h => f13.out h), (fun h => f14.out h), (fun h => f15.out h), (fun h => f16.out h), (fun h => f17.out h), (fun h => f18.out h), (fun h => f19.out h), (fun h => f20.out h), (fun h => f21.out h), (fun h => f22.out h), (fun h => f23.out h), (fun h => f24.out h), (fun h => f25.out h), (fun h => f26.out h), (fun h => f27.out h), (fun h => f28.out h), (fun h => f29.out h), (fun h => f30.out h), (fun h => f31.out h), (fun h => f32.out h), (fun h => f33.out h), (fun h => f34.out h), (fun h => f35.out h)⟩
            · intro L vs W hlen hL hD hI K hK
              obtain ⟨x0, x1, x2, x3, x4, x5, x6, x7, x8, x9, x10, x11, x12, x13, x14, x15, x16, x17, x18, x19, x20, x21, x22, x23, x24, x25, x26, x27, x28, x29, x30, x31, x32, x33, x34, x35, rfl⟩ := len36 hlen
              have hG := hI.1
              replace hI := hI.2
              have f0 := hide hI.1
              replace hI := hI.2
              have f1 := hide hI.1
              replace hI := hI.2
              have f2 := hide hI.1
              replace hI := hI.2
              have f3 := hide hI.1
              replace hI := hI.2
              have f4 := hide hI.1
              replace hI := hI.2
              have f5 := hide hI.1
              replace hI := hI.2
              have f6 := hide hI.1
              replace hI := hI.2
              have f7 := hide hI.1
              replace hI := hI.2
              have f8 := hide hI.1
              replace hI := hI.2
              have f9 := hide hI.1
              replace hI := hI.2
              have f10 := hide hI.1
              replace hI := hI.2
              have f11 := hide hI.1
              replace hI := hI.2
              have f12 := hide hI.1
              replace hI := hI.2
              have f13 := hide hI.1
              replace hI := hI.2
              have f14 := hide hI.1
              replace hI := hI.2
              have f15 := hide hI.1
              replace hI := hI.2
              have f16 := hide hI.1
              replace hI := hI.2
              have f17 := hide hI.1
              replace hI := hI.2
              have f18 := hide hI.1
              replace hI := hI.2
              have f19 := hide hI.1
              replace hI := hI.2
              have f20 := hide hI.1
              replace hI := hI.2
              have f21 := hide hI.1
              replace hI := hI.2
              have f22 := hide hI.1
              replace hI := hI.2
              have f23 := hide hI.1
              replace hI := hI.2
              have f24 := hide hI.1
              replace hI := hI.2
              have f25 := hide hI.1
              replace hI := hI.2
              have f26 := hide hI.1
              replace hI := hI.2
              have f27 := hide hI.1
              replace hI := hI.2
              have f28 := hide hI.1
              replace hI := hI.2
              have f29 := hide hI.1
              replace hI := hI.2
              have f30 := hide hI.1
              replace hI := hI.2
              have f31 := hide hI.1
              replace hI := hI.2
              have f32 := hide hI.1
              replace hI := hI.2
              have f33 := hide hI.1
              replace hI := hI.2
              have f34 := hide hI.1
              replace hI := hI.2
              have f35 := hide hI
              clear hI
              have m0 := keep hG m0
              have m1 := keep hG m1
              have m2 := keep hG m2
              obtain rfl := f0.out (hD.on 0 (by kernel_rfl))
              obtain rfl := f1.out (hD.on 1 (by kernel_rfl))
              try simp only [puts, Act.put, List.setIfInBounds_toArray, List.set_cons_zero, List.set_cons_succ]
              try go_simp
              refine (HF1.out _ (below2 hb56 hG)).mono ?_
              rintro e W' ⟨rfl, hb⟩
              try go_simp
              exact hK.out _ _ _ (by simp only [puts, Act.put, List.setIfInBounds_toArray, List.set_cons_zero, List.set_cons_succ] <;> rfl) ⟨below2 hG hb, (fun h => f0.out h), (fun h => f1.out h), (fun _ => rfl), (fun h => f3.out h), (fun h => f4.out h), (fun h => f5.out h), (fun h => f6.out h), (fun h => f7.out h), (fun h => f8.out h), (fun h => f9.out h), (fun h => f10.out h), (fun h => f11.out h), (fun h => f12.out h), (fun h => f13.out h), (fun h => f14.out h), (fun h => f15.out h), (fun h => f16.out h), (fun h => f17.out h), (fun h => f18.out h), (fun h => (fun h => h.below hb) (f19.out h)), (fun h => f20.out h), (fun h => f21.out h), (fun h => (fun h => h.below hb) (f22.out h)), (fun h => f23.out h), (fun h => f24.out h), (fun h => f25.out h), (fun h => f26.out h), (fun h => f27.out h), (fun h => f28.out h), (fun h => f29.out h), (fun h => f30.out h), (fun h => f31.out h), (fun h => f32.out h), (fun h => f33.out h), (fun h => f34.out h), (fun h => f35.out h)⟩
            · intro L vs W hlen hL hD hI K hK
              obtain ⟨x0, x1, x2, x3, x4, x5, x6, x7, x8, x9, x10, x11, x12, x13, x14, x15, x16, x17, x18, x19, x20, x21, x22, x23, x24, x25, x26, x27, x28, x29, x30, x31, x32, x33, x34, x35, rfl⟩ := len36 hlen
              have hG := hI.1
              replace hI := hI.2
              have f0 := hide hI.1
              replace hI := hI.2
              have f1 := hide hI.1
              replace hI := hI.2
              have f2 := hide hI.1
              replace hI := hI.2
              have f3 := hide hI.1
              replace hI := hI.2
              have f4 := hide hI.1
              replace hI := hI.2
              have f5 := hide hI.1
              replace hI := hI.2
              have f6 := hide hI.1
              replace hI := hI.2
              have f7 := hide hI.1
              replace hI := hI.2
              have f8 := hide hI.1
              replace hI := hI.2
              have f9 := hide hI.1
              replace hI := hI.2
              have f10 := hide hI.1
              replace hI := hI.2
              have f11 := hide hI.1
              replace hI := hI.2
              have f12 := hide hI.1
              replace hI := hI.2
              have f13 := hide hI.1
              replace hI := hI.2
              have f14 := hide hI.1
              replace hI := hI.2
              have f15 := hide hI.1
              replace hI := hI.2
              have f16 := hide hI.1
              replace hI := hI.2
              have f17 := hide hI.1
              replace hI := hI.2
              have f18 := hide hI.1
              replace hI := hI.2
              have f19 := hide hI.1
              replace hI := hI.2
              have f20 := hide hI.1
              replace hI := hI.2
              have f21 := hide hI.1
              replace hI := hI.2
              have f22 := hide hI.1
              replace hI := hI.2
              have f23 := hide hI.1
              replace hI := hI.2
              have f24 := hide hI.1
              replace hI := hI.2
              have f25 := hide hI.1
              replace hI := hI.2
              have f26 := hide hI.1
              replace hI := hI.2
              have f27 := hide hI.1
              replace hI := hI.2
              have f28 := hide hI.1
              replace hI := hI.2
              have f29 := hide hI.1
              replace hI := hI.2
              have f30 := hide hI.1
              replace hI := hI.2
              have f31 := hide hI.1
              replace hI := hI.2
              have f32 := hide hI.1
              replace hI := hI.2
              have f33 := hide hI.1
              replace hI := hI.2
              have f34 := hide hI.1
              replace hI := hI.2
              have f35 := hide hI
              clear hI
              have m0 := keep hG m0
              have m1 := keep hG m1
              have m2 := keep hG m2
              try simp only [puts, Act.put, List.setIfInBounds_toArray, List.set_cons_zero, List.set_cons_succ]
              try go_simp
              exact hK.out _ _ _ (by simp only [puts, Act.put, List.setIfInBounds_toArray, List.set_cons_zero, List.set_cons_succ] <;> rfl) ⟨hG, (fun h => f0.out h), (fun h => f1.out h), (fun h => f2.out h), (fun _ => rfl), (fun h => f4.out h), (fun h => f5.out h), (fun h => f6.out h), (fun h => f7.out h), (fun h => f8.out h), (fun h => f9.out h), (fun h => f10.out h), (fun h => f11.out h), (fun h => f12.out h), (fun h => f13.out h), (fun h => f14.out h), (fun h => f15.out h), (fun h => f16.out h), (fun h => f17.out h), (fun h => f18.out h), (fun h => f19.out h), (fun h => f20.out h), (fun h => f21.out h), (fun h => f22.out h), (fun h => f23.out h), (fun h => f24.out h), (fun h => f25.out h), (fun h => f26.out h), (fun h => f27.out h), (fun h => f28.out h), (fun h => f29.out h), (fun h => f30.out h), (fun h => f31.out h), (fun h => f32.out h), (fun h => f33.out h), (fun h => f34.out h), (fun h => f35.out h)⟩
            · intro L vs W hlen hL hD hI K hK
              obtain ⟨x0, x1, x2, x3, x4, x5, x6, x7, x8, x9, x10, x11, x12, x13, x14, x15, x16, x17, x18, x19, x20, x21, x22, x23, x24, x25, x26, x27, x28, x29, x30, x31, x32, x33, x34, x35, rfl⟩ := len36 hlen
              have hG := hI.1
              replace hI := hI.2
              have f0 := hide hI.1
              replace hI := hI.2
              have f1 := hide hI.1
              replace hI := hI.2
              have f2 := hide hI.1
              replace hI := hI.2
              have f3 := hide hI.1
              replace hI := hI.2
              have f4 := hide hI.1
              replace hI := hI.2
              have f5 := hide hI.1
              replace hI := hI.2
              have f6 := hide hI.1
              replace hI := hI.2
              have f7 := hide hI.1
              replace hI := hI.2
              have f8 := hide hI.1
              replace hI := hI.2
              have f9 := hide hI.1
              replace hI := hI.2
              have f10 := hide hI.1
              replace hI := hI.2
              have f11 := hide hI.1
              replace hI := hI.2
              have f12 := hide hI.1
              replace hI := hI.2
              have f13 := hide hI.1
              replace hI := hI.2
              have f14 := hide hI.1
              replace hI := hI.2
              have f15 := hide hI.1
              replace hI := hI.2
              have f16 := hide hI.1
              replace hI := hI.2
              have f17 := hide hI.1
              replace hI := hI.2
              have f18 := hide hI.1
              replace hI := hI.2
              have f19 := hide hI.1
              replace hI := hI.2
              have f20 := hide hI.1
              replace hI := hI.2
              have f21 := hide hI.1
              replace hI := hI.2
              have f22 := hide hI.1
              replace hI := hI.2
              have f23 := hide hI.1
              replace hI := hI.2
              have f24 := hide hI.1
              replace hI := hI.2
              have f25 := hide hI.1
              replace hI := hI.2
              have f26 := hide hI.1
              replace hI := hI.2
              have f27 := hide hI.1
              replace hI := hI.2
              have f28 := hide hI.1
              replace hI := hI.2
              have f29 := hide hI.1
              replace hI := hI.2
              have f30 := hide hI.1
              replace hI := hI.2
              have f31 := hide hI.1
              replace hI := hI.2
              have f32 := hide hI.1
              replace hI := hI.2
              have f33 := hide hI.1
              replace hI := hI.2
              have f34 := hide hI.1
              replace hI := hI.2
              have f35 := hide hI
              clear hI
              have m0 := keep hG m0
              have m1 := keep hG m1
              have m2 := keep hG m2
              try simp only [puts, Act.put, List.setIfInBounds_toArray, List.set_cons_zero, List.set_cons_succ]
              try go_simp
              exact hK.out _ _ _ (by simp only [puts, Act.put, List.setIfInBounds_toArray, List.set_cons_zero, List.set_cons_succ] <;> rfl) ⟨hG, (fun h => f0.out h), (fun h => f1.out h), (fun h => f2.out h), (fun h => f3.out h), (fun _ => rfl), (fun h => f5.out h), (fun h => f6.out h), (fun h => f7.out h), (fun h => f8.out h), (fun h => f9.out h), (fun h => f10.out h), (fun h => f11.out h), (fun h => f12.out h), (fun h => f13.out h), (fun h => f14.out h), (fun h => f15.out h), (fun h => f16.out h), (fun h => f17.out h), (fun h => f18.out h), (fun h => f19.out h), (fun h => f20.out h), (fun h => f21.out h), (fun h => f22.out h), (fun h => f23.out h), (fun h => f24.out h), (fun h => f25.out h), (fun h => f26.out h), (fun h => f27.out h), (fun h => f28.out h), (fun h => f29.out h), (fun h => f30.out h), (fun h => f31.out h), (fun h => f32.out h), (fun h => f33.out h), (fun h => f34.out h), (fun h => f35.out h)⟩
            · intro L vs W hlen hL hD hI K hK
              obtain ⟨x0, x1, x2, x3, x4, x5, x6, x7, x8, x9, x10, x11, x12, x13, x14, x15, x16, x17, x18, x19, x20, x21, x22, x23, x24, x25, x26, x27, x28, x29, x30, x31, x32, x33, x34, x35, rfl⟩ := len36 hlen
              have hG := hI.1
              replace hI := hI.2
              have f0 := hide hI.1
              replace hI := hI.2
              have f1 := hide hI.1
              replace hI := hI.2
              have f2 := hide hI.1
              replace hI := hI.2
              have f3 := hide hI.1
              replace hI := hI.2
              have f4 := hide hI.1
              replace hI := hI.2
              have f5 := hide hI.1
              replace hI := hI.2
              have f6 := hide hI.1
              replace hI := hI.2
              have f7 := hide hI.1
              replace hI := hI.2
              have f8 := hide hI.1
              replace hI := hI.2
              have f9 := hide hI.1
              replace hI := hI.2
              have f10 := hide hI.1
              replace hI := hI.2
              have f11 := hide hI.1
              replace hI := hI.2
              have f12 := hide hI.1
              replace hI := hI.2
              have f13 := hide hI.1
              replace hI := hI.2
              have f14 := hide hI.1
              replace hI := hI.2
              have f15 := hide hI.1
              replace hI := hI.2
              have f16 := hide hI.1
              replace hI := hI.2
              have f17 := hide hI.1
              replace hI := hI.2
              have f18 := hide hI.1
              replace hI := hI.2
              have f19 := hide hI.1
              replace hI := hI.2
              have f20 := hide hI.1
              replace hI := hI.2
              have f21 := hide hI.1
              replace hI := hI.2
              have f22 := hide hI.1
              replace hI := hI.2
              have f23 := hide hI.1
              replace hI := hI.2
              have f24 := hide hI.1
              replace hI := hI.2
              have f25 := hide hI.1
              replace hI := hI.2
              have f26 := hide hI.1
              replace hI := hI.2
              have f27 := hide hI.1
              replace hI := hI.2
              have f28 := hide hI.1
              replace hI := hI.2
              have f29 := hide hI.1
              replace hI := hI.2
              have f30 := hide hI.1
              replace hI := hI.2
              have f31 := hide hI.1
              replace hI := hI.2
              have f32 := hide hI.1
              replace hI := hI.2
              have f33 := hide hI.1
              replace hI := hI.2
              have f34 := hide hI.1
              replace hI := hI.2
              have f35 := hide hI
              clear hI
              have m0 := keep hG m0
              have m1 := keep hG m1
              have m2 := keep hG m2
              obtain rfl := f3.out (hD.on 3 (by kernel_rfl))
              obtain rfl := f4.out (hD.on 4 (by kernel_rfl))
              try simp only [puts, Act.put, List.setIfInBounds_toArray, List.set_cons_zero, List.set_cons_succ]
              try go_simp
              refine (HF2.out _ (below2 hb56 hG)).mono ?_
              rintro e W' ⟨rfl, hb⟩
              try go_simp
              exact hK.out _ _ _ (by simp only [puts, Act.put, List.setIfInBounds_toArray, List.set_cons_zero, List.set_cons_succ] <;> rfl) ⟨below2 hG hb, (fun h => f0.out h), (fun h => f1.out h), (fun h => f2.out h), (fun h => f3.out h), (fun h => f4.out h), (fun _ => rfl), (fun h => f6.out h), (fun h => f7.out h), (fun h => f8.out h), (fun h => f9.out h), (fun h => f10.out h), (fun h => f11.out h), (fun h => f12.out h), (fun h => f13.out h), (fun h => f14.out h), (fun h => f15.out h), (fun h => f16.out h), (fun h => f17.out h), (fun h => f18.out h), (fun h => (fun h => h.below hb) (f19.out h)), (fun h => f20.out h), (fun h => f21.out h), (fun h => (fun h => h.below hb) (f22.out h)), (fun h => f23.out h), (fun h => f24.out h), (fun h => f25.out h), (fun h => f26.out h), (fun h => f27.out h), (fun h => f28.out h), (fun h => f29.out h), (fun h => f30.out h), (fun h => f31.out h), (fun h => f32.out h), (fun h => f33.out h), (fun h => f34.out h), (fun h => f35.out h)⟩
            · intro L vs W hlen hL hD hI K hK
              obtain ⟨x0, x1, x2, x3, x4, x5, x6, x7, x8, x9, x10, x11, x12, x13, x14, x15, x16, x17, x18, x19, x20, x21, x22, x23, x24, x25, x26, x27, x28, x29, x30, x31, x32, x33, x34, x35, rfl⟩ := len36 hlen
              have hG := hI.1
              replace hI := hI.2
              have f0 := hide hI.1
              replace hI := hI.2
              have f1 := hide hI.1
              replace hI := hI.2
              have f2 := hide hI.1
              replace hI := hI.2
              have f3 := hide hI.1
              replace hI := hI.2
              have f4 := hide hI.1
              replace hI := hI.2
              have f5 := hide hI.1
              replace hI := hI.2
              have f6 := hide hI.1
              replace hI := hI.2
              have f7 := hide hI.1
              replace hI := hI.2
              have f8 := hide hI.1
              replace hI := hI.2
              have f9 := hide hI.1
              replace hI := hI.2
              have f10 := hide hI.1
              replace hI := hI.2
              have f11 := hide hI.1
              replace hI := hI.2
              have f12 := hide hI.1
              replace hI := hI.2
              have f13 := hide hI.1
              replace hI := hI.2
              have f14 := hide hI.1
              replace hI := hI.2
              have f15 := hide hI.1
              replace hI := hI.2
              have f16 := hide hI.1
              replace hI := hI.2
              have f17 := hide hI.1
              replace hI := hI.2
              have f18 := hide hI.1
              replace hI := hI.2
              have f19 := hide hI.1
              replace hI := hI.2
              have f20 := hide hI.1
              replace hI := hI.2
              have f21 := hide hI.1
              replace hI := hI.2
              have f22 := hide hI.1
              replace hI := hI.2
              have f23 := hide hI.1
              replace hI := hI.2
              have f24 := hide hI.1
              replace hI := hI.2
              have f25 := hide hI.1
              replace hI := hI.2
              have f26 := hide hI.1
              replace hI := hI.2
              have f27 := hide hI.1
              replace hI := hI.2
              have f28 := hide hI.1
              replace hI := hI.2
              have f29 := hide hI.1
              replace hI := hI.2
              have f30 := hide hI.1
              replace hI := hI.2
              have f31 := hide hI.1
              replace hI := hI.2
              have f32 := hide hI.1
              replace hI := hI.2
              have f33 := hide hI.1
              replace hI := hI.2
              have f34 := hide hI.1
              replace hI := hI.2
              have f35 := hide hI
              clear hI
              have m0 := keep hG m0
              have m1 := keep hG m1
              have m2 := keep hG m2
              obtain rfl := f2.out (hD.on 2 (by kernel_rfl))
              obtain rfl := f5.out (hD.on 5 (by kernel_rfl))
              try simp only [puts, Act.put, List.setIfInBounds_toArray, List.set_cons_zero, List.set_cons_succ]
              try go_simp
              exact hK.out _ _ _ (by simp only [puts, Act.put, List.setIfInBounds_toArray, List.set_cons_zero, List.set_cons_succ] <;> rfl) ⟨hG, (fun h => f0.out h), (fun h => f1.out h), (fun h => f2.out h), (fun h => f3.out h), (fun h => f4.out h), (fun h => f5.out h), (fun _ => rfl), (fun h => f7.out h), (fun h => f8.out h), (fun h => f9.out h), (fun h => f10.out h), (fun h => f11.out h), (fun h => f12.out h), (fun h => f13.out h), (fun h => f14.out h), (fun h => f15.out h), (fun h => f16.out h), (fun h => f17.out h), (fun h => f18.out h), (fun h => f19.out h), (fun h => f20.out h), (fun h => f21.out h), (fun h => f22.out h), (fun h => f23.out h), (fun h => f24.out h), (fun h => f25.out h), (fun h => f26.out h), (fun h => f27.out h), (fun h => f28.out h), (fun h => f29.out h), (fun h => f30.out h), (fun h => f31.out h), (fun h => f32.out h), (fun h => f33.out h), (fun h => f34.out h), (fun h => f35.out h)⟩
            · intro L vs W hlen hL hD hI K hK
              obtain ⟨x0, x1, x2, x3, x4, x5, x6, x7, x8, x9, x10, x11, x12, x13, x14, x15, x16, x17, x18, x19, x20, x21, x22, x23, x24, x25, x26, x27, x28, x29, x30, x31, x32, x33, x34, x35, rfl⟩ := len36 hlen
              have hG := hI.1
              replace hI := hI.2
              have f0 := hide hI.1
              replace hI := hI.2
              have f1 := hide hI.1
              replace hI := hI.2
              have f2 := hide hI.1
              replace hI := hI.2
              have f3 := hide hI.1
              replace hI := hI.2
              have f4 := hide hI.1
              replace hI := hI.2
              have f5 := hide hI.1
              replace hI := hI.2
              have f6 := hide hI.1
              replace hI := hI.2
              have f7 := hide hI.1
              replace hI := hI.2
              have f8 := hide hI.1
              replace hI := hI.2
              have f9 := hide hI.1
              replace hI := hI.2
              have f10 := hide hI.1
              replace hI := hI.2
              have f11 := hide hI.1
              replace hI := hI.2
              have f12 := hide hI.1
              replace hI := hI.2
              have f13 := hide hI.1
              replace hI := hI.2
              have f14 := hide hI.1
              replace hI := hI.2
              have f15 := hide hI.1
              replace hI := hI.2
              have f16 := hide hI.1
              replace hI := hI.2
              have f17 := hide hI.1
              replace hI := hI.2
              have f18 := hide hI.1
              replace hI := hI.2
              have f19 := hide hI.1
              replace hI := hI.2
              have f20 := hide hI.1
              replace hI := hI.2
              have f21 := hide hI.1
              replace hI := hI.2
              have f22 := hide hI.1
              replace hI := hI.2
              have f23 := hide hI.1
              replace hI := hI.2
              have f24 := hide hI.1
              replace hI := hI.2
              have f25 := hide hI.1
              replace hI := hI.2
              have f26 := hide hI.1
              replace hI := hI.2
              have f27 := hide hI.1
              replace hI := hI.2
              have f28 := hide hI.1
              replace hI := hI.2
              have f29 := hide hI.1
              replace hI := hI.2
              have f30 := hide hI.1
              replace hI := hI.2
              have f31 := hide hI.1
              replace hI := hI.2
              have f32 := hide hI.1
              replace hI := hI.2
              have f33 := hide hI.1
              replace hI := hI.2
              have f34 := hide hI.1
              replace hI := hI.2
              have f35 := hide hI
              clear hI
              have m0 := keep hG m0
              have m1 := keep hG m1
              have m2 := keep hG m2
              obtain rfl := f6.out (hD.on 6 (by kernel_rfl))
              try simp only [puts, Act.put, List.setIfInBounds_toArray, List.set_cons_zero, List.set_cons_succ]
              try go_simp
              exact hK.out _ _ _ (by simp only [puts, Act.put, List.setIfInBounds_toArray, List.set_cons_zero, List.set_cons_succ] <;> rfl) ⟨hG, (fun h => f0.out h), (fun h => f1.out h), (fun h => f2.out h), (fun h => f3.out h), (fun h => f4.out h), (fun h => f5.out h), (fun h => f6.out h), (fun _ => rfl), (fun h => f8.out h), (fun h => f9.out h), (fun h => f10.out h), (fun h => f11.out h), (fun h => f12.out h), (fun h => f13.out h), (fun h => f14.out h), (fun h => f15.out h), (fun h => f16.out h), (fun h => f17.out h), (fun h => f18.out h), (fun h => f19.out h), (fun h => f20.out h), (fun h => f21.out h), (fun h => f22.out h), (fun h => f23.out h), (fun h => f24.out h), (fun h => f25.out h), (fun h => f26.out h), (fun h => f27.out h), (fun h => f28.out h), (fun h => f29.out h), (fun h => f30.out h), (fun h => f31.out h), (fun h => f32.out h), (fun h => f33.out h), (fun h => f34.out h), (fun h => f35.out h)⟩
            · intro L vs W hlen hL hD hI K hK
              obtain ⟨x0, x1, x2, x3, x4, x5, x6, x7, x8, x9, x10, x11, x12, x13, x14, x15, x16, x17, x18, x19, x20, x21, x22, x23, x24, x25, x26, x27, x28, x29, x30, x31, x32, x33, x34, x35, rfl⟩ := len36 hlen
              have hG := hI.1
              replace hI := hI.2
              have f0 := hide hI.1
              replace hI := hI.2
              have f1 := hide hI.1
              replace hI := hI.2
              have f2 := hide hI.1
              replace hI := hI.2
              have f3 := hide hI.1
              replace hI := hI.2
              have f4 := hide hI.1
              replace hI := hI.2
              have f5 := hide hI.1
              replace hI := hI.2
              have f6 := hide hI.1
              replace hI := hI.2
              have f7 := hide hI.1
              replace hI := hI.2
              have f8 := hide hI.1
              replace hI := hI.2
              have f9 := hide hI.1
              replace hI := hI.2
              have f10 := hide hI.1
              replace hI := hI.2
              have f11 := hide hI.1
              replace hI := hI.2
              have f12 := hide hI.1
              replace hI := hI.2
              have f13 := hide hI.1
              replace hI := hI.2
              have f14 := hide hI.1
              replace hI := hI.2
              have f15 := hide hI.1
              replace hI := hI.2
              have f16 := hide hI.1
              replace hI := hI.2
              have f17 := hide hI.1
              replace hI := hI.2
              have f18 := hide hI.1
              replace hI := hI.2
              have f19 := hide hI.1
              replace hI := hI.2
              have f20 := hide hI.1
              replace hI := hI.2
              have f21 := hide hI.1
              replace hI := hI.2
              have f22 := hide hI.1
              replace hI := hI.2
              have f23 := hide hI.1
              replace hI := hI.2
              have f24 := hide hI.1
              replace hI := hI.2
              have f25 := hide hI.1
              replace hI := hI.2
              have f26 := hide hI.1
              replace hI := hI.2
              have f27 := hide hI.1
              replace hI := hI.2
              have f28 := hide hI.1
              replace hI := hI.2
              have f29 := hide hI.1
              replace hI := hI.2
              have f30 := hide hI.1
              replace hI := hI.2
              have f31 := hide hI.1
              replace hI := hI.2
              have f32 := hide hI.1
              replace hI := hI.2
              have f33 := hide hI.1
              replace hI := hI.2
              have f34 := hide hI.1
              replace hI := hI.2
              have f35 := hide hI
              clear hI
              have m0 := keep hG m0
              have m1 := keep hG m1
              have m2 := keep hG m2
              obtain rfl := f7.out (hD.on 7 (by kernel_rfl))
              try simp only [puts, Act.put, List.setIfInBounds_toArray, List.set_cons_zero, List.set_cons_succ]
              try go_simp
              exact hK.out _ _ _ (by simp only [puts, Act.put, List.setIfInBounds_toArray, List.set_cons_zero, List.set_cons_succ] <;> rfl) ⟨hG, (fun h => f0.out h), (fun h => f1.out h), (fun h => f2.out h), (fun h => f3.out h), (fun h => f4.out h), (fun h => f5.out h), (fun h => f6.out h), (fun h => f7.out h), (fun _ => rfl), (fun h => f9.out h), (fun h => f10.out h), (fun h => f11.out h), (fun h => f12.out h), (fun h => f13.out h), (fun h => f14.out h), (fun h => f15.out h), (fun h => f16.out h), (fun h => f17.out h), (fun h => f18.out h), (fun h => f19.out h), (fun h => f20.out h), (fun h => f21.out h), (fun h => f22.out h), (fun h => f23.out h), (fun h => f24.out h), (fun h => f25.out h), (fun h => f26.out h), (fun h => f27.out h), (fun h => f28.out h), (fun h => f29.out h), (fun h => f30.out h), (fun h => f31.out h), (fun h => f32.out h), (fun h => f33.out h), (fun h => f34.out h), (fun h => f35.out h)⟩
            · intro L vs W hlen hL hD hI K hK
              obtain ⟨x0, x1, x2, x3, x4, x5, x6, x7, x8, x9, x10, x11, x12, x13, x14, x15, x16, x17, x18, x19, x20, x21, x22, x23, x24, x25, x26, x27, x28, x29, x30, x31, x32, x33, x34, x35, rfl⟩ := len36 hlen
              have hG := hI.1
              replace hI := hI.2
              have f0 := hide hI.1
              replace hI := hI.2
              have f1 := hide hI.1
              replace hI := hI.2
              have f2 := hide hI.1
              replace hI := hI.2
              have f3 := hide hI.1
              replace hI := hI.2
              have f4 := hide hI.1
              replace hI := hI.2
              have f5 := hide hI.1
              replace hI := hI.2
              have f6 := hide hI.1
              replace hI := hI.2
              have f7 := hide hI.1
              replace hI := hI.2
              have f8 := hide hI.1
              replace hI := hI.2
              have f9 := hide hI.1
              replace hI := hI.2
              have f10 := hide hI.1
              replace hI := hI.2
              have f11 := hide hI.1
              replace hI := hI.2
              have f12 := hide hI.1
              replace hI := hI.2
              have f13 := hide hI.1
              replace hI := hI.2
              have f14 := hide hI.1
              replace hI := hI.2
              have f15 := hide hI.1
              replace hI := hI.2
              have f16 := hide hI.1
              replace hI := hI.2
              have f17 := hide hI.1
              replace hI := hI.2
              have f18 := hide hI.1
              replace hI := hI.2
              have f19 := hide hI.1
              replace hI := hI.2
              have f20 := hide hI.1
              replace hI := hI.2
              have f21 := hide hI.1
              replace hI := hI.2
              have f22 := hide hI.1
              replace hI := hI.2
              have f23 := hide hI.1
              replace hI := hI.2
              have f24 := hide hI.1
              replace hI := hI.2
              have f25 := hide hI.1
              replace hI := hI.2
              have f26 := hide hI.1
              replace hI := hI.2
              have f27 := hide hI.1
              replace hI := hI.2
              have f28 := hide hI.1
              replace hI := hI.2
              have f29 := hide hI.1
              replace hI := hI.2
              have f30 := hide hI.1
              replace hI := hI.2
              have f31 := hide hI.1
              replace hI := hI.2
              have f32 := hide hI.1
              replace hI := hI.2
              have f33 := hide hI.1
              replace hI := hI.2
              have f34 := hide hI.1
              replace hI := hI.2
              have f35 := hide hI
              clear hI
              have m0 := keep hG m0
              have m1 := keep hG m1
              have m2 := keep hG m2
              obtain rfl := f7.out (hD.on 7 (by kernel_rfl))
              try simp only [puts, Act.put, List.setIfInBounds_toArray, List.set_cons_zero, List.set_cons_succ]
              try go_simp
              exact hK.out _ _ _ (by simp only [puts, Act.put, List.setIfInBounds_toArray, List.set_cons_zero, List.set_cons_succ] <;> rfl) ⟨hG, (fun h => f0.out h), (fun h => f1.out h), (fun h => f2.out h), (fun h => f3.out h), (fun h => f4.out h), (fun h => f5.out h), (fun h => f6.out h), (fun h => f7.out h), (fun h => f8.out h), (fun _ => rfl), (fun h => f10.out h), (fun h => f11.out h), (fun h => f12.out h), (fun h => f13.out h), (fun h => f14.out h), (fun h => f15.out h), (fun h => f16.out h), (fun h => f17.out h), (fun h => f18.out h), (fun h => f19.out h), (fun h => f20.out h), (fun h => f21.out h), (fun h => f22.out h), (fun h => f23.out h), (fun h => f24.out h), (fun h => f25.out h), (fun h => f26.out h), (fun h => f27.out h), (fun h => f28.out h), (fun h => f29.out h), (fun h => f30.out h), (fun h => f31.out h), (fun h => f32.out h), (fun h => f33.out h), (fun h => f34.out h), (fun h => f35.out h)⟩
            · intro L vs W hlen hL hD hI K hK
              obtain ⟨x0, x1, x2, x3, x4, x5, x6, x7, x8, x9, x10, x11, x12, x13, x14, x15, x16, x17, x18, x19, x20, x21, x22, x23, x24, x25, x26, x27, x28, x29, x30, x31, x32, x33, x34, x35, rfl⟩ := len36 hlen
              have hG := hI.1
              replace hI := hI.2
              have f0 := hide hI.1
              replace hI := hI.2
              have f1 := hide hI.1
              replace hI := hI.2
              have f2 := hide hI.1
              replace hI := hI.2
              have f3 := hide hI.1
              replace hI := hI.2
              have f4 := hide hI.1
              replace hI := hI.2
              have f5 := hide hI.1
              replace hI := hI.2
              have f6 := hide hI.1
              replace hI := hI.2
              have f7 := hide hI.1
              replace hI := hI.2
              have f8 := hide hI.1
              replace hI := hI.2
              have f9 := hide hI.1
              replace hI := hI.2
              have f10 := hide hI.1
              replace hI := hI.2
              have f11 := hide hI.1
              replace hI := hI.2
              have f12 := hide hI.1
              replace hI := hI.2
              have f13 := hide hI.1
              replace hI := hI.2
              have f14 := hide hI.1
              replace hI := hI.2
              have f15 := hide hI.1
              replace hI := hI.2
              have f16 := hide hI.1
              replace hI := hI.2
              have f17 := hide hI.1
              replace hI := hI.2
              have f18 := hide hI.1
              replace hI := hI.2
              have f19 := hide hI.1
              replace hI := hI.2
              have f20 := hide hI.1
              replace hI := hI.2
              have f21 := hide hI.1
              replace hI := hI.2
              have f22 := hide hI.1
              replace hI := hI.2
              have f23 := hide hI.1
              replace hI := hI.2
              have f24 := hide hI.1
              replace hI := hI.2
              have f25 := hide hI.1
              replace hI := hI.2
              have f26 := hide hI.1
              replace hI := hI.2
              have f27 := hide hI.1
              replace hI := hI.2
              have f28 := hide hI.1
              replace hI := hI.2
              have f29 := hide hI.1
              replace hI := hI.2
              have f30 := hide hI.1
              replace hI := hI.2
              have f31 := hide hI.1
              replace hI := hI.2
              have f32 := hide hI.1
              replace hI := hI.2
              have f33 := hide hI.1
              replace hI := hI.2
              have f34 := hide hI.1
              replace hI := hI.2
              have f35 := hide hI
              clear hI
              have m0 := keep hG m0
              have m1 := keep hG m1
              have m2 := keep hG m2
              obtain rfl := f7.out (hD.on 7 (by kernel_rfl))
              obtain rfl := f8.out (hD.on 8 (by kernel_rfl))
              obtain rfl := f9.out (hD.on 9 (by kernel_rfl))
              try simp only [puts, Act.put, List.setIfInBounds_toArray, List.set_cons_zero, List.set_cons_succ]
              try go_simp
              refine (HW1.out _ (below2 hb56 hG)).mono ?_
              rintro e W' ⟨rfl, hb⟩
              try go_simp
              exact hK.out _ _ _ (by simp only [puts, Act.put, List.setIfInBounds_toArray, List.set_cons_zero, List.set_cons_succ] <;> rfl) ⟨below2 hG hb, (fun h => f0.out h), (fun h => f1.out h), (fun h => f2.out h), (fun h => f3.out h), (fun h => f4.out h), (fun h => f5.out h), (fun h => f6.out h), (fun h => f7.out h), (fun h => f8.out h), (fun h => f9.out h), (fun _ => rfl), (fun h => f11.out h), (fun h => f12.out h), (fun h => f13.out h), (fun h => f14.out h), (fun h => f15.out h), (fun h => f16.out h), (fun h => f17.out h), (fun h => f18.out h), (fun h => (fun h => h.below hb) (f19.out h)), (fun h => f20.out h), (fun h => f21.out h), (fun h => (fun h => h.below hb) (f22.out h)), (fun h => f23.out h), (fun h => f24.out h), (fun h => f25.out h), (fun h => f26.out h), (fun h => f27.out h), (fun h => f28.out h), (fun h => f29.out h), (fun h => f30.out h), (fun h => f31.out h), (fun h => f32.out h), (fun h => f33.out h), (fun h => f34.out h), (fun h => f35.out h)⟩
            · intro L vs W hlen hL hD hI K hK
              obtain ⟨x0, x1, x2, x3, x4, x5, x6, x7, x8, x9, x10, x11, x12, x13, x14, x15, x16, x17, x18, x19, x20, x21, x22, x23, x24, x25, x26, x27, x28, x29, x30, x31, x32, x33, x34, x35, rfl⟩ := len36 hlen
              have hG := hI.1
              replace hI := hI.2
              have f0 := hide hI.1
              replace hI := hI.2
              have f1 := hide hI.1
              replace hI := hI.2
              have f2 := hide hI.1
              replace hI := hI.2
              have f3 := hide hI.1
              replace hI := hI.2
              have f4 := hide hI.1
              replace hI := hI.2
              have f5 := hide hI.1
              replace hI := hI.2
              have f6 := hide hI.1
              replace hI := hI.2
              have f7 := hide hI.1
              replace hI := hI.2
              have f8 := hide hI.1
              replace hI := hI.2
              have f9 := hide hI.1
              replace hI := hI.2
              have f10 := hide hI.1
              replace hI := hI.2
              have f11 := hide hI.1
              replace hI := hI.2
              have f12 := hide hI.1
              replace hI := hI.2
              have f13 := hide hI.1
              replace hI := hI.2
              have f14 := hide hI.1
              replace hI := hI.2
              have f15 := hide hI.1
              replace hI := hI.2
              have f16 := hide hI.1
              replace hI := hI.2
              have f17 := hide hI.1
              replace hI := hI.2
              have f18 := hide hI.1
              replace hI := hI.2
              have f19 := hide hI.1
              replace hI := hI.2
              have f20 := hide hI.1
              replace hI := hI.2
              have f21 := hide hI.1
              replace hI := hI.2
              have f22 := hide hI.1
              replace hI := hI.2
              have f23 := hide hI.1
              replace hI := hI.2
              have f24 := hide hI.1
              replace hI := hI.2
              have f25 := hide hI.1
              replace hI := hI.2
              have f26 := hide hI.1
              replace hI := hI.2
              have f27 := hide hI.1
              replace hI := hI.2
              have f28 := hide hI.1
              replace hI := hI.2
              have f29 := hide hI.1
              replace hI := hI.2
              have f30 := hide hI.1
              replace hI := hI.2
              have f31 := hide hI.1
              replace hI := hI.2
              have f32 := hide hI.1
              replace hI := hI.2
              have f33 := hide hI.1
              replace hI := hI.2
              have f34 := hide hI.1
              replace hI := hI.2
              have f35 := hide hI
              clear hI
              have m0 := keep hG m0
              have m1 := keep hG m1
              have m2 := keep hG m2
              obtain rfl := f7.out (hD.on 7 (by kernel_rfl))
              try simp only [puts, Act.put, List.setIfInBounds_toArray, List.set_cons_zero, List.set_cons_succ]
              try go_simp
              exact hK.out _ _ _ (by simp only [puts, Act.put, List.setIfInBounds_toArray, List.set_cons_zero, List.set_cons_succ] <;> rfl) ⟨hG, (fun h => f0.out h), (fun h => f1.out h), (fun h => f2.out h), (fun h => f3.out h), (fun h => f4.out h), (fun h => f5.out h), (fun h => f6.out h), (fun h => f7.out h), (fun h => f8.out h), (fun h => f9.out h), (fun h => f10.out h), (fun _ => rfl), (fun h => f12.out h), (fun h => f13.out h), (fun h => f14.out h), (fun h => f15.out h), (fun h => f16.out h), (fun h => f17.out h), (fun h => f18.out h), (fun h => f19.out h), (fun h => f20.out h), (fun h => f21.out h), (fun h => f22.out h), (fun h => f23.out h), (fun h => f24.out h), (fun h => f25.out h), (fun h => f26.out h), (fun h => f27.out h), (fun h => f28.out h), (fun h => f29.out h), (fun h => f30.out h), (fun h => f31.out h), (fun h => f32.out h), (fun h => f33.out h), (fun h => f34.out h), (fun h => f35.out h)⟩
            · intro L vs W hlen hL hD hI K hK
              obtain ⟨x0, x1, x2, x3, x4, x5, x6, x7, x8, x9, x10, x11, x12, x13, x14, x15, x16, x17, x18, x19, x20, x21, x22, x23, x24, x25, x26, x27, x28, x29, x30, x31, x32, x33, x34, x35, rfl⟩ := len36 hlen
              have hG := hI.1
              replace hI := hI.2
              have f0 := hide hI.1
              replace hI := hI.2
              have f1 := hide hI.1
              replace hI := hI.2
              have f2 := hide hI.1
              replace hI := hI.2
              have f3 := hide hI.1
              replace hI := hI.2
              have f4 := hide hI.1
              replace hI := hI.2
              have f5 := hide hI.1
              replace hI := hI.2
              have f6 := hide hI.1
              replace hI := hI.2
              have f7 := hide hI.1
              replace hI := hI.2
              have f8 := hide hI.1
              replace hI := hI.2
              have f9 := hide hI.1
              replace hI := hI.2
              have f10 := hide hI.1
              replace hI := hI.2
              have f11 := hide hI.1
              replace hI := hI.2
              have f12 := hide hI.1
              replace hI := hI.2
              have f13 := hide hI.1
              replace hI := hI.2
              have f14 := hide hI.1
              replace hI := hI.2
              have f15 := hide hI.1
              replace hI := hI.2
              have f16 := hide hI.1
              replace hI := hI.2
              have f17 := hide hI.1
              replace hI := hI.2
              have f18 := hide hI.1
              replace hI := hI.2
              have f19 := hide hI.1
              replace hI := hI.2
              have f20 := hide hI.1
              replace hI := hI.2
              have f21 := hide hI.1
              replace hI := hI.2
              have f22 := hide hI.1
              replace hI := hI.2
              have f23 := hide hI.1
              replace hI := hI.2
              have f24 := hide hI.1
              replace hI := hI.2
              have f25 := hide hI.1
              replace hI := hI.2
              have f26 := hide hI.1
              replace hI := hI.2
              have f27 := hide hI.1
              replace hI := hI.2
              have f28 := hide hI.1
              replace hI := hI.2
              have f29 := hide hI.1
              replace hI := hI.2
              have f30 := hide hI.1
              replace hI := hI.2
              have f31 := hide hI.1
              replace hI := hI.2
              have f32 := hide hI.1
              replace hI := hI.2
              have f33 := hide hI.1
              replace hI := hI.2
              have f34 := hide hI.1
              replace hI := hI.2
              have f35 := hide hI
              clear hI
              have m0 := keep hG m0
              have m1 := keep hG m1
              have m2 := keep hG m2
              obtain rfl := f7.out (hD.on 7 (by kernel_rfl))
              try simp only [puts, Act.put, List.setIfInBounds_toArray, List.set_cons_zero, List.set_cons_succ]
              try go_simp
              exact hK.out _ _ _ (by simp only [puts, Act.put, List.setIfInBounds_toArray, List.set_cons_zero, List.set_cons_succ] <;> rfl) ⟨hG, (fun h => f0.out h), (fun h => f1.out h), (fun h => f2.out h), (fun h => f3.out h), (fun h => f4.out h), (fun h => f5.out h), (fun h => f6.out h), (fun h => f7.out h), (fun h => f8.out h), (fun h => f9.out h), (fun h => f10.out h), (fun h => f11.out h), (fun _ => rfl), (fun h => f13.out h), (fun h => f14.out h), (fun h => f15.out h), (fun h => f16.out h), (fun h => f17.out h), (fun h => f18.out h), (fun h => f19.out h), (fun h => f20.out h), (fun h => f21.out h), (fun h => f22.out h), (fun h => f23.out h), (fun h => f24.out h), (fun h => f25.out h), (fun h => f26.out h), (fun h => f27.out h), (fun h => f28.out h), (fun h => f29.out h), (fun h => f30.out h), (fun h => f31.out h), (fun h => f32.out h), (fun h => f33.out h), (fun h => f34.out h), (fun h => f35.out h)⟩
            · intro L vs W hlen hL hD hI K hK
              obtain ⟨x0, x1, x2, x3, x4, x5, x6, x7, x8, x9, x10, x11, x12, x13, x14, x15, x16, x17, x18, x19, x20, x21, x22, x23, x24, x25, x26, x27, x28, x29, x30, x31, x32, x33, x34, x35, rfl⟩ := len36 hlen
              have hG := hI.1
              replace hI := hI.2
              have f0 := hide hI.1
              replace hI := hI.2
              have f1 := hide hI.1
              replace hI := hI.2
              have f2 := hide hI.1
              replace hI := hI.2
              have f3 := hide hI.1
              replace hI := hI.2
              have f4 := hide hI.1
              replace hI := hI.2
              have f5 := hide hI.1
              replace hI := hI.2
              have f6 := hide hI.1
              replace hI := hI.2
              have f7 := hide hI.1
              replace hI := hI.2
              have f8 := hide hI.1
              replace hI := hI.2
              have f9 := hide hI.1
              replace hI := hI.2
              have f10 := hide hI.1
              replace hI := hI.2
              have f11 := hide hI.1
              replace hI := hI.2
              have f12 := hide hI.1
              replace hI := hI.2
              have f13 := hide hI.1
              replace hI := hI.2
              have f14 := hide hI.1
              replace hI := hI.2
              have f15 := hide hI.1
              replace hI := hI.2
              have f16 := hide hI.1
              replace hI := hI.2
              have f17 := hide hI.1
              replace hI := hI.2
              have f18 := hide hI.1
              replace hI := hI.2
              have f19 := hide hI.1
              replace hI := hI.2
              have f20 := hide hI.1
              replace hI := hI.2
              have f21 := hide hI.1
              replace hI := hI.2
              have f22 := hide hI.1
              replace hI := hI.2
              have f23 := hide hI.1
              replace hI := hI.2
              have f24 := hide hI.1
              replace hI := hI.2
              have f25 := hide hI.1
              replace hI := hI.2
              have f26 := hide hI.1
              replace hI := hI.2
              have f27 := hide hI.1
              replace hI := hI.2
              have f28 := hide hI.1
              replace hI := hI.2
              have f29 := hide hI.1
              replace hI := hI.2
              have f30 := hide hI.1
              replace hI := hI.2
              have f31 := hide hI.1
              replace hI := hI.2
              have f32 := hide hI.1
              replace hI := hI.2
              have f33 := hide hI.1
              replace hI := hI.2
              have f34 := hide hI.1
              replace hI := hI.2
              have f35 := hide hI
              clear hI
              have m0 := keep hG m0
              have m1 := keep hG m1
              have m2 := keep hG m2
              obtain rfl := f7.out (hD.on 7 (by kernel_rfl))
              obtain rfl := f11.out (hD.on 11 (by kernel_rfl))
              obtain rfl := f12.out (hD.on 12 (by kernel_rfl))
              try simp only [puts, Act.put, List.setIfInBounds_toArray, List.set_cons_zero, List.set_cons_succ]
              try go_simp
              refine (HW2.out _ (below2 hb56 hG)).mono ?_
              rintro e W' ⟨rfl, hb⟩
              try go_simp
              exact hK.out _ _ _ (by simp only [puts, Act.put, List.setIfInBounds_toArray, List.set_cons_zero, List.set_cons_succ] <;> rfl) ⟨below2 hG hb, (fun h => f0.out h), (fun h => f1.out h), (fun h => f2.out h), (fun h => f3.out h), (fun h => f4.out h), (fun h => f5.out h), (fun h => f6.out h), (fun h => f7.out h), (fun h => f8.out h), (fun h => f9.out h), (fun h => f10.out h), (fun h => f11.out h), (fun h => f12.out h), (fun _ => rfl), (fun h => f14.out h), (fun h => f15.out h), (fun h => f16.out h), (fun h => f17.out h), (fun h => f18.out h), (fun h => (fun h => h.below hb) (f19.out h)), (fun h => f20.out h), (fun h => f21.out h), (fun h => (fun h => h.below hb) (f22.out h)), (fun h => f23.out h), (fun h => f24.out h), (fun h => f25.out h), (fun h => f26.out h), (fun h => f27.out h), (fun h => f28.out h), (fun h => f29.out h), (fun h => f30.out h), (fun h => f31.out h), (fun h => f32.out h), (fun h => f33.out h), (fun h => f34.out h), (fun h => f35.out h)⟩
            · intro L vs W hlen hL hD hI K hK
              obtain ⟨x0, x1, x2, x3, x4, x5, x6, x7, x8, x9, x10, x11, x12, x13, x14, x15, x16, x17, x18, x19, x20, x21, x22, x23, x24, x25, x26, x27, x28, x29, x30, x31, x32, x33, x34, x35, rfl⟩ := len36 hlen
              have hG := hI.1
              replace hI := hI.2
              have f0 := hide hI.1
              replace hI := hI.2
              have f1 := hide hI.1
              replace hI := hI.2
              have f2 := hide hI.1
              replace hI := hI.2
              have f3 := hide hI.1
              replace hI := hI.2
              have f4 := hide hI.1
              replace hI := hI.2
              have f5 := hide hI.1
              replace hI := hI.2
              have f6 := hide hI.1
              replace hI := hI.2
              have f7 := hide hI.1
              replace hI := hI.2
              have f8 := hide hI.1
              replace hI := hI.2
              have f9 := hide hI.1
              replace hI := hI.2
              have f10 := hide hI.1
              replace hI := hI.2
              have f11 := hide hI.1
              replace hI := hI.2
              have f12 := hide hI.1
              replace hI := hI.2
              have f13 := hide hI.1
              replace hI := hI.2
              have f14 := hide hI.1
              replace hI := hI.2
              have f15 := hide hI.1
              replace hI := hI.2
              have f16 := hide hI.1
              replace hI := hI.2
              have f17 := hide hI.1
              replace hI := hI.2
              have f18 := hide hI.1
              replace hI := hI.2
              have f19 := hide hI.1
              replace hI := hI.2
              have f20 := hide hI.1
              replace hI := hI.2
              have f21 := hide hI.1
              replace hI := hI.2
              have f22 := hide hI.1
              replace hI := hI.2
              have f23 := hide hI.1
              replace hI := hI.2
              have f24 := hide hI.1
              replace hI := hI.2
              have f25 := hide hI.1
              replace hI := hI.2
              have f26 := hide hI.1
              replace hI := hI.2
              have f27 := hide hI.1
              replace hI := hI.2
              have f28 := hide hI.1
              replace hI := hI.2
              have f29 := hide hI.1
              replace hI := hI.2
              have f30 := hide hI.1
              replace hI := hI.2
              have f31 := hide hI.1
              replace hI := hI.2
              have f32 := hide hI.1
              replace hI := hI.2
              have f33 := hide hI.1
              replace hI := hI.2
              have f34 := hide hI.1
              replace hI := hI.2
              have f35 := hide hI
              clear hI
              have m0 := keep hG m0
              have m1 := keep hG m1
              have m2 := keep hG m2
              obtain rfl := f7.out (hD.on 7 (by kernel_rfl))
              obtain rfl := f10.out (hD.on 10 (by kernel_rfl))
              obtain rfl := f13.out (hD.on 13 (by kernel_rfl))
              try simp only [puts, Act.put, List.setIfInBounds_toArray, List.set_cons_zero, List.set_cons_succ]
              try go_simp
              exact hK.out _ _ _ (by simp only [puts, Act.put, List.setIfInBounds_toArray, List.set_cons_zero, List.set_cons_succ] <;> rfl) ⟨hG, (fun h => f0.out h), (fun h => f1.out h), (fun h => f2.out h), (fun h => f3.out h), (fun h => f4.out h), (fun h => f5.out h), (fun h => f6.out h), (fun h => f7.out h), (fun h => f8.out h), (fun h => f9.out h), (fun h => f10.out h), (fun h => f11.out h), (fun h => f12.out h), (fun h => f13.out h), (fun _ => rfl), (fun h => f15.out h), (fun h => f16.out h), (fun h => f17.out h), (fun h => f18.out h), (fun h => f19.out h), (fun h => f20.out h), (fun h => f21.out h), (fun h => f22.out h), (fun h => f23.out h), (fun h => f24.out h), (fun h => f25.out h), (fun h => f26.out h), (fun h => f27.out h), (fun h => f28.out h), (fun h => f29.out h), (fun h => f30.out h), (fun h => f31.out h), (fun h => f32.out h), (fun h => f33.out h), (fun h => f34.out h), (fun h => f35.out h)⟩
            · intro L vs W hlen hL hD hI K hK
              obtain ⟨x0, x1, x2, x3, x4, x5, x6, x7, x8, x9, x10, x11, x12, x13, x14, x15, x16, x17, x18, x19, x20, x21, x22, x23, x24, x25, x26, x27, x28, x29, x30, x31, x32, x33, x34, x35, rfl⟩ := len36 hlen
              have hG := hI.1
              replace hI := hI.2
              have f0 := hide hI.1
              replace hI := hI.2
              have f1 := hide hI.1
              replace hI := hI.2
              have f2 := hide hI.1
              replace hI := hI.2
              have f3 := hide hI.1
              replace hI := hI.2
              have f4 := hide hI.1
              replace hI := hI.2
              have f5 := hide hI.1
              replace hI := hI.2
              have f6 := hide hI.1
              replace hI := hI.2
              have f7 := hide hI.1
              replace hI := hI.2
              have f8 := hide hI.1
              replace hI := hI.2
              have f9 := hide hI.1
              replace hI := hI.2
              have f10 := hide hI.1
              replace hI := hI.2
              have f11 := hide hI.1
              replace hI := hI.2
              have f12 := hide hI.1
              replace hI := hI.2
              have f13 := hide hI.1
              replace hI := hI.2
              have f14 := hide hI.1
              replace hI := hI.2
              have f15 := hide hI.1
              replace hI := hI.2
              have f16 := hide hI.1
              replace hI := hI.2
              have f17 := hide hI.1
              replace hI := hI.2
              have f18 := hide hI.1
              replace hI := hI.2
              have f19 := hide hI.1
              replace hI := hI.2
              have f20 := hide hI.1
              replace hI := hI.2
              have f21 := hide hI.1
              replace hI := hI.2
              have f22 := hide hI.1
              replace hI := hI.2
              have f23 := hide hI.1
              replace hI := hI.2
              have f24 := hide hI.1
              replace hI := hI.2
              have f25 := hide hI.1
              replace hI := hI.2
              have f26 := hide hI.1
              replace hI := hI.2
              have f27 := hide hI.1
              replace hI := hI.2
              have f28 := hide hI.1
              replace hI := hI.2
              have f29 := hide hI.1
              replace hI := hI.2
              have f30 := hide hI.1
              replace hI := hI.2
              have f31 := hide hI.1
              replace hI := hI.2
              have f32 := hide hI.1
              replace hI := hI.2
              have f33 := hide hI.1
              replace hI := hI.2
              have f34 := hide hI.1
              replace hI := hI.2
              have f35 := hide hI
              clear hI
              have m0 := keep hG m0
              have m1 := keep hG m1
              have m2 := keep hG m2
              obtain rfl := f7.out (hD.on 7 (by kernel_rfl))
              obtain rfl := f14.out (hD.on 14 (by kernel_rfl))
              try simp only [puts, Act.put, List.setIfInBounds_toArray, List.set_cons_zero, List.set_cons_succ]
              try go_simp
              exact hK.out _ _ _ (by simp only [puts, Act.put, List.setIfInBounds_toArray, List.set_cons_zero, List.set_cons_succ] <;> rfl) ⟨hG, (fun h => f0.out h), (fun h => f1.out h), (fun h => f2.out h), (fun h => f3.out h), (fun h => f4.out h), (fun h => f5.out h), (fun h => f6.out h), (fun h => f7.out h), (fun h => f8.out h), (fun h => f9.out h), (fun h => f10.out h), (fun h => f11.out h), (fun h => f12.out h), (fun h => f13.out h), (fun h => f14.out h), (fun _ => rfl), (fun h => f16.out h), (fun h => f17.out h), (fun h => f18.out h), (fun h => f19.out h), (fun h => f20.out h), (fun h => f21.out h), (fun h => f22.out h), (fun h => f23.out h), (fun h => f24.out h), (fun h => f25.out h), (fun h => f26.out h), (fun h => f27.out h), (fun h => f28.out h), (fun h => f29.out h), (fun h => f30.out h), (fun h => f31.out h), (fun h => f32.out h), (fun h => f33.out h), (fun h => f34.out h), (fun h => f35.out h)⟩
            · intro L vs W hlen hL hD hI K hK
              obtain ⟨x0, x1, x2, x3, x4, x5, x6, x7, x8, x9, x10, x11, x12, x13, x14, x15, x16, x17, x18, x19, x20, x21, x22, x23, x24, x25, x26, x27, x28, x29, x30, x31, x32, x33, x34, x35, rfl⟩ := len36 hlen
              have hG := hI.1
              replace hI := hI.2
              have f0 := hide hI.1
              replace hI := hI.2
              have f1 := hide hI.1
              replace hI := hI.2
              have f2 := hide hI.1
              replace hI := hI.2
              have f3 := hide hI.1
              replace hI := hI.2
              have f4 := hide hI.1
              replace hI := hI.2
              have f5 := hide hI.1
              replace hI := hI.2
              have f6 := hide hI.1
              replace hI := hI.2
              have f7 := hide hI.1
              replace hI := hI.2
              have f8 := hide hI.1
              replace hI := hI.2
              have f9 := hide hI.1
              replace hI := hI.2
              have f10 := hide hI.1
              replace hI := hI.2
              have f11 := hide hI.1
              replace hI := hI.2
              have f12 := hide hI.1
              replace hI := hI.2
              have f13 := hide hI.1
              replace hI := hI.2
              have f14 := hide hI.1
              replace hI := hI.2
              have f15 := hide hI.1
              replace hI := hI.2
              have f16 := hide hI.1
              replace hI := hI.2
              have f17 := hide hI.1
              replace hI := hI.2
              have f18 := hide hI.1
              replace hI := hI.2
              have f19 := hide hI.1
              replace hI := hI.2
              have f20 := hide hI.1
              replace hI := hI.2
              have f21 := hide hI.1
              replace hI := hI.2
              have f22 := hide hI.1
              replace hI := hI.2
              have f23 := hide hI.1
              replace hI := hI.2
              have f24 := hide hI.1
              replace hI := hI.2
              have f25 := hide hI.1
              replace hI := hI.2
              have f26 := hide hI.1
              replace hI := hI.2
              have f27 := hide hI.1
              replace hI := hI.2
              have f28 := hide hI.1
              replace hI := hI.2
              have f29 := hide hI.1
              replace hI := hI.2
              have f30 := hide hI.1
              replace hI := hI.2
              have f31 := hide hI.1
              replace hI := hI.2
              have f32 := hide hI.1
              replace hI := hI.2
              have f33 := hide hI.1
              replace hI := hI.2
              have f34 := hide hI.1
              replace hI := hI.2
              have f35 := hide hI
              clear hI
              have m0 := keep hG m0
              have m1 := keep hG m1
              have m2 := keep hG m2
              obtain rfl := f15.out (hD.on 15 (by kernel_rfl))
              try simp only [puts, Act.put, List.setIfInBounds_toArray, List.set_cons_zero, List.set_cons_succ]
              try go_simp
              exact hK.out _ _ _ (by simp only [puts, Act.put, List.setIfInBounds_toArray, List.set_cons_zero, List.set_cons_succ] <;> rfl) ⟨hG, (fun h => f0.out h), (fun h => f1.out h), (fun h => f2.out h), (fun h => f3.out h), (fun h => f4.out h), (fun h => f5.out h), (fun h => f6.out h), (fun h => f7.out h), (fun h => f8.out h), (fun h => f9.out h), (fun h => f10.out h), (fun h => f11.out h), (fun h => f12.out h), (fun h => f13.out h), (fun h => f14.out h), (fun h => f15.out h), (fun _ => rfl), (fun h => f17.out h), (fun h => f18.out h), (fun h => f19.out h), (fun h => f20.out h), (fun h => f21.out h), (fun h => f22.out h), (fun h => f23.out h), (fun h => f24.out h), (fun h => f25.out h), (fun h => f26.out h), (fun h => f27.out h), (fun h => f28.out h), (fun h => f29.out h), (fun h => f30.out h), (fun h => f31.out h), (fun h => f32.out h), (fun h => f33.out h), (fun h => f34.out h), (fun h => f35.out h)⟩
            · intro L vs W hlen hL hD hI K hK
              obtain ⟨x0, x1, x2, x3, x4, x5, x6, x7, x8, x9, x10, x11, x12, x13, x14, x15, x16, x17, x18, x19, x20, x21, x22, x23, x24, x25, x26, x27, x28, x29, x30, x31, x32, x33, x34, x35, rfl⟩ := len36 hlen
              have hG := hI.1
              replace hI := hI.2
              have f0 := hide hI.1
              replace hI := hI.2
              have f1 := hide hI.1
              replace hI := hI.2
              have f2 := hide hI.1
              replace hI := hI.2
              have f3 := hide hI.1
              replace hI := hI.2
              have f4 := hide hI.1
              replace hI := hI.2
              have f5 := hide hI.1
              replace hI := hI.2
              have f6 := hide hI.1
              replace hI := hI.2
              have f7 := hide hI.1
              replace hI := hI.2
              have f8 := hide hI.1
              replace hI := hI.2
              have f9 := hide hI.1
              replace hI := hI.2
              have f10 := hide hI.1
              replace hI := hI.2
              have f11 := hide hI.1
              replace hI := hI.2
              have f12 := hide hI.1
              replace hI := hI.2
              have f13 := hide hI.1
              replace hI := hI.2
              have f14 := hide hI.1
              replace hI := hI.2
              have f15 := hide hI.1
              replace hI := hI.2
              have f16 := hide hI.1
              replace hI := hI.2
              have f17 := hide hI.1
              replace hI := hI.2
              have f18 := hide hI.1
              replace hI := hI.2
              have f19 := hide hI.1
              replace hI := hI.2
              have f20 := hide hI.1
              replace hI := hI.2
              have f21 := hide hI.1
              replace hI := hI.2
              have f22 := hide hI.1
              replace hI := hI.2
              have f23 := hide hI.1
              replace hI := hI.2
              have f24 := hide hI.1
              replace hI := hI.2
              have f25 := hide hI.1
              replace hI := hI.2
              have f26 := hide hI.1
              replace hI := hI.2
              have f27 := hide hI.1
              replace hI := hI.2
              have f28 := hide hI.1
              replace hI := hI.2
              have f29 := hide hI.1
              replace hI := hI.2
              have f30 := hide hI.1
              replace hI := hI.2
              have f31 := hide hI.1
              replace hI := hI.2
              have f32 := hide hI.1
              replace hI := hI.2
              have f33 := hide hI.1
              replace hI := hI.2
              have f34 := hide hI.1
              replace hI := hI.2
              have f35 := hide hI
              clear hI
              have m0 := keep hG m0
              have m1 := keep hG m1
              have m2 := keep hG m2
              obtain rfl := f16.out (hD.on 16 (by kernel_rfl))
              try simp only [puts, Act.put, List.setIfInBounds_toArray, List.set_cons_zero, List.set_cons_succ]
              try go_simp
              exact hK.out _ _ _ (by simp only [puts, Act.put, List.setIfInBounds_toArray, List.set_cons_zero, List.set_cons_succ] <;> rfl) ⟨hG, (fun h => f0.out h), (fun h => f1.out h), (fun h => f2.out h), (fun h => f3.out h), (fun h => f4.out h), (fun h => f5.out h), (fun h => f6.out h), (fun h => f7.out h), (fun h => f8.out h), (fun h => f9.out h), (fun h => f10.out h), (fun h => f11.out h), (fun h => f12.out h), (fun h => f13.out h), (fun h => f14.out h), (fun h => f15.out h), (fun h => f16.out h), (fun _ => rfl), (fun h => f18.out h), (fun h => f19.out h), (fun h => f20.out h), (fun h => f21.out h), (fun h => f22.out h), (fun h => f23.out h), (fun h => f24.out h), (fun h => f25.out h), (fun h => f26.out h), (fun h => f27.out h), (fun h => f28.out h), (fun h => f29.out h), (fun h => f30.out h), (fun h => f31.out h), (fun h => f32.out h), (fun h => f33.out h), (fun h => f34.out h), (fun h => f35.out h)⟩
            · intro L vs W hlen hL hD hI K hK
              obtain ⟨x0, x1, x2, x3, x4, x5, x6, x7, x8, x9, x10, x11, x12, x13, x14, x15, x16, x17, x18, x19, x20, x21, x22, x23, x24, x25, x26, x27, x28, x29, x30, x31, x32, x33, x34, x35, rfl⟩ := len36 hlen
              have hG := hI.1
              replace hI := hI.2
              have f0 := hide hI.1
              replace hI := hI.2
              have f1 := hide hI.1
              replace hI := hI.2
              have f2 := hide hI.1
              replace hI := hI.2
              have f3 := hide hI.1
              replace hI := hI.2
              have f4 := hide hI.1
              replace hI := hI.2
              have f5 := hide hI.1
              replace hI := hI.2
              have f6 := hide hI.1
              replace hI := hI.2
              have f7 := hide hI.1
              replace hI := hI.2
              have f8 := hide hI.1
              replace hI := hI.2
              have f9 := hide hI.1
              replace hI := hI.2
              have f10 := hide hI.1
              replace hI := hI.2
              have f11 := hide hI.1
              replace hI := hI.2
              have f12 := hide hI.1
              replace hI := hI.2
              have f13 := hide hI.1
              replace hI := hI.2
              have f14 := hide hI.1
              replace hI := hI.2
              have f15 := hide hI.1
              replace hI := hI.2
              have f16 := hide hI.1
              replace hI := hI.2
              have f17 := hide hI.1
              replace hI := hI.2
              have f18 := hide hI.1
              replace hI := hI.2
              have f19 := hide hI.1
              replace hI := hI.2
              have f20 := hide hI.1
              replace hI := hI.2
              have f21 := hide hI.1
              replace hI := hI.2
              have f22 := hide hI.1
              replace hI := hI.2
              have f23 := hide hI.1
              replace hI := hI.2
              have f24 := hide hI.1
              replace hI := hI.2
              have f25 := hide hI.1
              replace hI := hI.2
              have f26 := hide hI.1
              replace hI := hI.2
              have f27 := hide hI.1
              replace hI := hI.2
              have f28 := hide hI.1
              replace hI := hI.2
              have f29 := hide hI.1
              replace hI := hI.2
              have f30 := hide hI.1
              replace hI := hI.2
              have f31 := hide hI.1
              replace hI := hI.2
              have f32 := hide hI.1
              replace hI := hI.2
              have f33 := hide hI.1
              replace hI := hI.2
              have f34 := hide hI.1
              replace hI := hI.2
              have f35 := hide hI
              clear hI
              have m0 := keep hG m0
              have m1 := keep hG m1
              have m2 := keep hG m2
              obtain rfl := f16.out (hD.on 16 (by kernel_rfl))
              try simp only [puts, Act.put, List.setIfInBounds_toArray, List.set_cons_zero, List.set_cons_succ]
              try go_simp
              exact hK.out _ _ _ (by simp only [puts, Act.put, List.setIfInBounds_toArray, List.set_cons_zero, List.set_cons_succ] <;> rfl) ⟨hG, (fun h => f0.out h), (fun h => f1.out h), (fun h => f2.out h), (fun h => f3.out h), (fun h => f4.out h), (fun h => f5.out h), (fun h => f6.out h), (fun h => f7.out h), (fun h => f8.out h), (fun h => f9.out h), (fun h => f10.out h), (fun h => f11.out h), (fun h => f12.out h), (fun h => f13.out h), (fun h => f14.out h), (fun h => f15.out h), (fun h => f16.out h), (fun h => f17.out h), (fun _ => rfl), (fun h => f19.out h), (fun h => f20.out h), (fun h => f21.out h), (fun h => f22.out h), (fun h => f23.out h), (fun h => f24.out h), (fun h => f25.out h), (fun h => f26.out h), (fun h => f27.out h), (fun h => f28.out h), (fun h => f29.out h), (fun h => f30.out h), (fun h => f31.out h), (fun h => f32.out h), (fun h => f33.out h), (fun h => f34.out h), (fun h => f35.out h)⟩
            · intro L vs W hlen hL hD hI K hK
              obtain ⟨x0, x1, x2, x3, x4, x5, x6, x7, x8, x9, x10, x11, x12, x13, x14, x15, x16, x17, x18, x19, x20, x21, x22, x23, x24, x25, x26, x27, x28, x29, x30, x31, x32, x33, x34, x35, rfl⟩ := len36 hlen
              have hG := hI.1
              replace hI := hI.2
              have f0 := hide hI.1
              replace hI := hI.2
              have f1 := hide hI.1
              replace hI := hI.2
              have f2 := hide hI.1
              replace hI := hI.2
              have f3 := hide hI.1
              replace hI := hI.2
              have f4 := hide hI.1
              replace hI := hI.2
              have f5 := hide hI.1
              replace hI := hI.2
              have f6 := hide hI.1
              replace hI := hI.2
              have f7 := hide hI.1
              replace hI := hI.2
              have f8 := hide hI.1
              replace hI := hI.2
              have f9 := hide hI.1
              replace hI := hI.2
              have f10 := hide hI.1
              replace hI := hI.2
              have f11 := hide hI.1
              replace hI := hI.2
              have f12 := hide hI.1
              replace hI := hI.2
              have f13 := hide hI.1
              replace hI := hI.2
              have f14 := hide hI.1
              replace hI := hI.2
              have f15 := hide hI.1
              replace hI := hI.2
              have f16 := hide hI.1
              replace hI := hI.2
              have f17 := hide hI.1
              replace hI := hI.2
              have f18 := hide hI.1
              replace hI := hI.2
              have f19 := hide hI.1
              replace hI := hI.2
              have f20 := hide hI.1
              replace hI := hI.2
              have f21 := hide hI.1
              replace hI := hI.2
              have f22 := hide hI.1
              replace hI := hI.2
              have f23 := hide hI.1
              replace hI := hI.2
              have f24 := hide hI.1
              replace hI := hI.2
              have f25 := hide hI.1
              replace hI := hI.2
              have f26 := hide hI.1
              replace hI := hI.2
              have f27 := hide hI.1
              replace hI := hI.2
              have f28 := hide hI.1
              replace hI := hI.2
              have f29 := hide hI.1
              replace hI := hI.2
              have f30 := hide hI.1
              replace hI := hI.2
              have f31 := hide hI.1
              replace hI := hI.2
              have f32 := hide hI.1
              replace hI := hI.2
              have f33 := hide hI.1
              replace hI := hI.2
              have f34 := hide hI.1
              replace hI := hI.2
              have f35 := hide hI
              clear hI
              have m0 := keep hG m0
              have m1 := keep hG m1
              have m2 := keep hG m2
              obtain rfl := f16.out (hD.on 16 (by kernel_rfl))
              obtain rfl := f17.out (hD.on 17 (by kernel_rfl))
              obtain rfl := f18.out (hD.on 18 (by kernel_rfl))
              try simp only [puts, Act.put, List.setIfInBounds_toArray, List.set_cons_zero, List.set_cons_succ]
              try go_simp
              refine (HU1.out _ (below2 hb56 hG)).mono ?_
              rintro e W' ⟨v1, rfl, hv1, hb⟩
              try go_simp
              exact hK.out _ _ _ (by simp only [puts, Act.put, List.setIfInBounds_toArray, List.set_cons_zero, List.set_cons_succ] <;> rfl) ⟨below2 hG hb, (fun h => f0.out h), (fun h => f1.out h), (fun h => f2.out h), (fun h => f3.out h), (fun h => f4.out h), (fun h => f5.out h), (fun h => f6.out h), (fun h => f7.out h), (fun h => f8.out h), (fun h => f9.out h), (fun h => f10.out h), (fun h => f11.out h), (fun h => f12.out h), (fun h => f13.out h), (fun h => f14.out h), (fun h => f15.out h), (fun h => f16.out h), (fun h => f17.out h), (fun h => f18.out h), (fun _ => hv1.keeps (keeps_frm _ _)), (fun h => f20.out h), (fun h => f21.out h), (fun h => (fun h => h.below hb) (f22.out h)), (fun h => f23.out h), (fun h => f24.out h), (fun h => f25.out h), (fun h => f26.out h), (fun h => f27.out h), (fun h => f28.out h), (fun h => f29.out h), (fun h => f30.out h), (fun h => f31.out h), (fun h => f32.out h), (fun h => f33.out h), (fun h => f34.out h), (fun h => f35.out h)⟩
            · intro L vs W hlen hL hD hI K hK
              obtain ⟨x0, x1, x2, x3, x4, x5, x6, x7, x8, x9, x10, x11, x12, x13, x14, x15, x16, x17, x18, x19, x20, x21, x22, x23, x24, x25, x26, x27, x28, x29, x30, x31, x32, x33, x34, x35, rfl⟩ := len36 hlen
              have hG := hI.1
              replace hI := hI.2
              have f0 := hide hI.1
              replace hI := hI.2
              have f1 := hide hI.1
              replace hI := hI.2
              have f2 := hide hI.1
              replace hI := hI.2
              have f3 := hide hI.1
              replace hI := hI.2
              have f4 := hide hI.1
              replace hI := hI.2
              have f5 := hide hI.1
              replace hI := hI.2
              have f6 := hide hI.1
              replace hI := hI.2
              have f7 := hide hI.1
              replace hI := hI.2
              have f8 := hide hI.1
              replace hI := hI.2
              have f9 := hide hI.1
              replace hI := hI.2
              have f10 := hide hI.1
              replace hI := hI.2
              have f11 := hide hI.1
              replace hI := hI.2
              have f12 := hide hI.1
              replace hI := hI.2
              have f13 := hide hI.1
              replace hI := hI.2
              have f14 := hide hI.1
              replace hI := hI.2
              have f15 := hide hI.1
              replace hI := hI.2
              have f16 := hide hI.1
              replace hI := hI.2
              have f17 := hide hI.1
              replace hI := hI.2
              have f18 := hide hI.1
              replace hI := hI.2
              have f19 := hide hI.1
              replace hI := hI.2
              have f20 := hide hI.1
              replace hI := hI.2
              have f21 := hide hI.1
              replace hI := hI.2
              have f22 := hide hI.1
              replace hI := hI.2
              have f23 := hide hI.1
              replace hI := hI.2
              have f24 := hide hI.1
              replace hI := hI.2
              have f25 := hide hI.1
              replace hI := hI.2
              have f26 := hide hI.1
              replace hI := hI.2
              have f27 := hide hI.1
              replace hI := hI.2
              have f28 := hide hI.1
              replace hI := hI.2
              have f29 := hide hI.1
              replace hI := hI.2
              have f30 := hide hI.1
              replace hI := hI.2
              have f31 := hide hI.1
              replace hI := hI.2
              have f32 := hide hI.1
              replace hI := hI.2
              have f33 := hide hI.1
              replace hI := hI.2
              have f34 := hide hI.1
              replace hI := hI.2
              have f35 := hide hI
              clear hI
              have m0 := keep hG m0
              have m1 := keep hG m1
              have m2 := keep hG m2
              obtain rfl := f16.out (hD.on 16 (by kernel_rfl))
              try simp only [puts, Act.put, List.setIfInBounds_toArray, List.set_cons_zero, List.set_cons_succ]
              try go_simp
              exact hK.out _ _ _ (by simp only [puts, Act.put, List.setIfInBounds_toArray, List.set_cons_zero, List.set_cons_succ] <;> rfl) ⟨hG, (fun h => f0.out h), (fun h => f1.out h), (fun h => f2.out h), (fun h => f3.out h), (fun h => f4.out h), (fun h => f5.out h), (fun h => f6.out h), (fun h => f7.out h), (fun h => f8.out h), (fun h => f9.out h), (fun h => f10.out h), (fun h => f11.out h), (fun h => f12.out h), (fun h => f13.out h), (fun h => f14.out h), (fun h => f15.out h), (fun h => f16.out h), (fun h => f17.out h), (fun h => f18.out h), (fun h => f19.out h), (fun _ => rfl), (fun h => f21.out h), (fun h => f22.out h), (fun h => f23.out h), (fun h => f24.out h), (fun h => f25.out h), (fun h => f26.out h), (fun h => f27.out h), (fun h => f28.out h), (fun h => f29.out h), (fun h => f30.out h), (fun h => f31.out h), (fun h => f32.out h), (fun h => f33.out h), (fun h => f34.out h), (fun h => f35.out h)⟩
            · intro L vs W hlen hL hD hI K hK
              obtain ⟨x0, x1, x2, x3, x4, x5, x6, x7, x8, x9, x10, x11, x12, x13, x14, x15, x16, x17, x18, x19, x20, x21, x22, x23, x24, x25, x26, x27, x28, x29, x30, x31, x32, x33, x34, x35, rfl⟩ := len36 hlen
              have hG := hI.1
              replace hI := hI.2
              have f0 := hide hI.1
              replace hI := hI.2
              have f1 := hide hI.1
              replace hI := hI.2
              have f2 := hide hI.1
              replace hI := hI.2
              have f3 := hide hI.1
              replace hI := hI.2
              have f4 := hide hI.1
              replace hI := hI.2
              have f5 := hide hI.1
              replace hI := hI.2
              have f6 := hide hI.1
              replace hI := hI.2
              have f7 := hide hI.1
              replace hI := hI.2
              have f8 := hide hI.1
              replace hI := hI.2
              have f9 := hide hI.1
              replace hI := hI.2
              have f10 := hide hI.1
              replace hI := hI.2
              have f11 := hide hI.1
              replace hI := hI.2
              have f12 := hide hI.1
              replace hI := hI.2
              have f13 := hide hI.1
              replace hI := hI.2
              have f14 := hide hI.1
              replace hI := hI.2
              have f15 := hide hI.1
              replace hI := hI.2
              have f16 := hide hI.1
              replace hI := hI.2
              have f17 := hide hI.1
              replace hI := hI.2
              have f18 := hide hI.1
              replace hI := hI.2
              have f19 := hide hI.1
              replace hI := hI.2
              have f20 := hide hI.1
              replace hI := hI.2
              have f21 := hide hI.1
              replace hI := hI.2
              have f22 := hide hI.1
              replace hI := hI.2
              have f23 := hide hI.1
              replace hI := hI.2
              have f24 := hide hI.1
              replace hI := hI.2
              have f25 := hide hI.1
              replace hI := hI.2
              have f26 := hide hI.1
              replace hI := hI.2
              have f27 := hide hI.1
              replace hI := hI.2
              have f28 := hide hI.1
              replace hI := hI.2
              have f29 := hide hI.1
              replace hI := hI.2
              have f30 := hide hI.1
              replace hI := hI.2
              have f31 := hide hI.1
              replace hI := hI.2
              have f32 := hide hI.1
              replace hI := hI.2
              have f33 := hide hI.1
              replace hI := hI.2
              have f34 := hide hI.1
              replace hI := hI.2
              have f35 := hide hI
              clear hI
              have m0 := keep hG m0
              have m1 := keep hG m1
              have m2 := keep hG m2
              obtain rfl := f16.out (hD.on 16 (by kernel_rfl))
              try simp only [puts, Act.put, List.setIfInBounds_toArray, List.set_cons_zero, List.set_cons_succ]
              try go_simp
              exact hK.out _ _ _ (by simp only [puts, Act.put, List.setIfInBounds_toArray, List.set_cons_zero, List.set_cons_succ] <;> rfl) ⟨hG, (fun h => f0.out h), (fun h => f1.out h), (fun h => f2.out h), (fun h => f3.out h), (fun h => f4.out h), (fun h => f5.out h), (fun h => f6.out h), (fun h => f7.out h), (fun h => f8.out h), (fun h => f9.out h), (fun h => f10.out h), (fun h => f11.out h), (fun h => f12.out h), (fun h => f13.out h), (fun h => f14.out h), (fun h => f15.out h), (fun h => f16.out h), (fun h => f17.out h), (fun h => f18.out h), (fun h => f19.out h), (fun h => f20.out h), (fun _ => rfl), (fun h => f22.out h), (fun h => f23.out h), (fun h => f24.out h), (fun h => f25.out h), (fun h => f26.out h), (fun h => f27.out h), (fun h => f28.out h), (fun h => f29.out h), (fun h => f30.out h), (fun h => f31.out h), (fun h => f32.out h), (fun h => f33.out h), (fun h => f34.out h), (fun h => f35.out h)⟩
            · intro L vs W hlen hL hD hI K hK
              obtain ⟨x0, x1, x2, x3, x4, x5, x6, x7, x8, x9, x10, x11, x12, x13, x14, x15, x16, x17, x18, x19, x20, x21, x22, x23, x24, x25, x26, x27, x28, x29, x30, x31, x32, x33, x34, x35, rfl⟩ := len36 hlen
              have hG := hI.1
              replace hI := hI.2
              have f0 := hide hI.1
              replace hI := hI.2
              have f1 := hide hI.1
              replace hI := hI.2
              have f2 := hide hI.1
              replace hI := hI.2
              have f3 := hide hI.1
              replace hI := hI.2
              have f4 := hide hI.1
              replace hI := hI.2
              have f5 := hide hI.1
              replace hI := hI.2
              have f6 := hide hI.1
              replace hI := hI.2
              have f7 := hide hI.1
              replace hI := hI.2
              have f8 := hide hI.1
              replace hI := hI.2
              have f9 := hide hI.1
              replace hI := hI.2
              have f10 := hide hI.1
              replace hI := hI.2
              have f11 := hide hI.1
              replace hI := hI.2
              have f12 := hide hI.1
              replace hI := hI.2
              have f13 := hide hI.1
              replace hI := hI.2
              have f14 := hide hI.1
              replace hI := hI.2
              have f15 := hide hI.1
              replace hI := hI.2
              have f16 := hide hI.1
              replace hI := hI.2
              have f17 := hide hI.1
              replace hI := hI.2
              have f18 := hide hI.1
              replace hI := hI.2
              have f19 := hide hI.1
              replace hI := hI.2
              have f20 := hide hI.1
              replace hI := hI.2
              have f21 := hide hI.1
              replace hI := hI.2
              have f22 := hide hI.1
              replace hI := hI.2
              have f23 := hide hI.1
              replace hI := hI.2
              have f24 := hide hI.1
              replace hI := hI.2
              have f25 := hide hI.1
              replace hI := hI.2
              have f26 := hide hI.1
              replace hI := hI.2
              have f27 := hide hI.1
              replace hI := hI.2
              have f28 := hide hI.1
              replace hI := hI.2
              have f29 := hide hI.1
              replace hI := hI.2
              have f30 := hide hI.1
              replace hI := hI.2
              have f31 := hide hI.1
              replace hI := hI.2
              have f32 := hide hI.1
              replace hI := hI.2
              have f33 := hide hI.1
              replace hI := hI.2
              have f34 := hide hI.1
              replace hI := hI.2
              have f35 := hide hI
              clear hI
              have m0 := keep hG m0
              have m1 := keep hG m1
              have m2 := keep hG m2
              obtain rfl := f16.out (hD.on 16 (by kernel_rfl))
              obtain rfl := f20.out (hD.on 20 (by kernel_rfl))
              obtain rfl := f21.out (hD.on 21 (by kernel_rfl))
              try simp only [puts, Act.put, List.setIfInBounds_toArray, List.set_cons_zero, List.set_cons_succ]
              try go_simp
              refine (HU2.out _ (below2 hb56 hG)).mono ?_
              rintro e W' ⟨v1, rfl, hv1, hb⟩
              try go_simp
              exact hK.out _ _ _ (by simp only [puts, Act.put, List.setIfInBounds_toArray, List.set_cons_zero, List.set_cons_succ] <;> rfl) ⟨below2 hG hb, (fun h => f0.out h), (fun h => f1.out h), (fun h => f2.out h), (fun h => f3.out h), (fun h => f4.out h), (fun h => f5.out h), (fun h => f6.out h), (fun h => f7.out h), (fun h => f8.out h), (fun h => f9.out h), (fun h => f10.out h), (fun h => f11.out h), (fun h => f12.out h), (fun h => f13.out h), (fun h => f14.out h), (fun h => f15.out h), (fun h => f16.out h), (fun h => f17.out h), (fun h => f18.out h), (fun h => (fun h => h.below hb) (f19.out h)), (fun h => f20.out h), (fun h => f21.out h), (fun _ => hv1.keeps (keeps_frm _ _)), (fun h => f23.out h), (fun h => f24.out h), (fun h => f25.out h), (fun h => f26.out h), (fun h => f27.out h), (fun h => f28.out h), (fun h => f29.out h), (fun h => f30.out h), (fun h => f31.out h), (fun h => f32.out h), (fun h => f33.out h), (fun h => f34.out h), (fun h => f35.out h)⟩
            · intro L vs W hlen hL hD hI K hK
              obtain ⟨x0, x1, x2, x3, x4, x5, x6, x7, x8, x9, x10, x11, x12, x13, x14, x15, x16, x17, x18, x19, x20, x21, x22, x23, x24, x25, x26, x27, x28, x29, x30, x31, x32, x33, x34, x35, rfl⟩ := len36 hlen
              have hG := hI.1
              replace hI := hI.2
              have f0 := hide hI.1
              replace hI := hI.2
              have f1 := hide hI.1
              replace hI := hI.2
              have f2 := hide hI.1
              replace hI := hI.2
              have f3 := hide hI.1
              replace hI := hI.2
              have f4 := hide hI.1
              replace hI := hI.2
              have f5 := hide hI.1
              replace hI := hI.2
              have f6 := hide hI.1
              replace hI := hI.2
              have f7 := hide hI.1
              replace hI := hI.2
              have f8 := hide hI.1
              replace hI := hI.2
              have f9 := hide hI.1
              replace hI := hI.2
              have f10 := hide hI.1
              replace hI := hI.2
              have f11 := hide hI.1
              replace hI := hI.2
              have f12 := hide hI.1
              replace hI := hI.2
              have f13 := hide hI.1
              replace hI := hI.2
              have f14 := hide hI.1
              replace hI := hI.2
              have f15 := hide hI.1
              replace hI := hI.2
              have f16 := hide hI.1
              replace hI := hI.2
              have f17 := hide hI.1
              replace hI := hI.2
              have f18 := hide hI.1
              replace hI := hI.2
              have f19 := hide hI.1
              replace hI := hI.2
              have f20 := hide hI.1
              replace hI := hI.2
              have f21 := hide hI.1
              replace hI := hI.2
              have f22 := hide hI.1
              replace hI := hI.2
              have f23 := hide hI.1
              replace hI := hI.2
              have f24 := hide hI.1
              replace hI := hI.2
              have f25 := hide hI.1
              replace hI := hI.2
              have f26 := hide hI.1
              replace hI := hI.2
              have f27 := hide hI.1
              replace hI := hI.2
              have f28 := hide hI.1
              replace hI := hI.2
              have f29 := hide hI.1
              replace hI := hI.2
              have f30 := hide hI.1
              replace hI := hI.2
              have f31 := hide hI.1
              replace hI := hI.2
              have f32 := hide hI.1
              replace hI := hI.2
              have f33 := hide hI.1
              replace hI := hI.2
              have f34 := hide hI.1
              replace hI := hI.2
              have f35 := hide hI
              clear hI
              have m0 := keep hG m0
              have m1 := keep hG m1
              have m2 := keep hG m2
              obtain rfl := f16.out (hD.on 16 (by kernel_rfl))
              have g19 := f19.out (hD.on 19 (by kernel_rfl))
              have g22 := f22.out (hD.on 22 (by kernel_rfl))
              try simp only [puts, Act.put, List.setIfInBounds_toArray, List.set_cons_zero, List.set_cons_succ]
              try go_simp
              refine (HIN.out _ _ _ g19 g22).mono ?_
              rintro e W' ⟨rfl, hb⟩
              try go_simp
              exact hK.out _ _ _ (by simp only [puts, Act.put, List.setIfInBounds_toArray, List.set_cons_zero, List.set_cons_succ] <;> rfl) ⟨below2 hG hb, (fun h => f0.out h), (fun h => f1.out h), (fun h => f2.out h), (fun h => f3.out h), (fun h => f4.out h), (fun h => f5.out h), (fun h => f6.out h), (fun h => f7.out h), (fun h => f8.out h), (fun h => f9.out h), (fun h => f10.out h), (fun h => f11.out h), (fun h => f12.out h), (fun h => f13.out h), (fun h => f14.out h), (fun h => f15.out h), (fun h => f16.out h), (fun h => f17.out h), (fun h => f18.out h), (fun h => (fun h => h.below hb) (f19.out h)), (fun h => f20.out h), (fun h => f21.out h), (fun h => (fun h => h.below hb) (f22.out h)), (fun _ => rfl), (fun h => f24.out h), (fun h => f25.out h), (fun h => f26.out h), (fun h => f27.out h), (fun h => f28.out h), (fun h => f29.out h), (fun h => f30.out h), (fun h => f31.out h), (fun h => f32.out h), (fun h => f33.out h), (fun h => f34.out h), (fun h => f35.out h)⟩
            · intro L vs W hlen hL hD hI K hK
              obtain ⟨x0, x1, x2, x3, x4, x5, x6, x7, x8, x9, x10, x11, x12, x13, x14, x15, x16, x17, x18, x19, x20, x21, x22, x23, x24, x25, x26, x27, x28, x29, x30, x31, x32, x33, x34, x35, rfl⟩ := len36 hlen
              have hG := hI.1
              replace hI := hI.2
              have f0 := hide hI.1
              replace hI := hI.2
              have f1 := hide hI.1
              replace hI := hI.2
              have f2 := hide hI.1
              replace hI := hI.2
              have f3 := hide hI.1
              replace hI := hI.2
              have f4 := hide hI.1
              replace hI := hI.2
              have f5 := hide hI.1
              replace hI := hI.2
              have f6 := hide hI.1
              replace hI := hI.2
              have f7 := hide hI.1
              replace hI := hI.2
              have f8 := hide hI.1
              replace hI := hI.2
              have f9 := hide hI.1
              replace hI := hI.2
              have f10 := hide hI.1
              replace hI := hI.2
              have f11 := hide hI.1
              replace hI := hI.2
              have f12 := hide hI.1
              replace hI := hI.2
              have f13 := hide hI.1
              replace hI := hI.2
              have f14 := hide hI.1
              replace hI := hI.2
              have f15 := hide hI.1
              replace hI := hI.2
              have f16 := hide hI.1
              replace hI := hI.2
              have f17 := hide hI.1
              replace hI := hI.2
              have f18 := hide hI.1
              replace hI := hI.2
              have f19 := hide hI.1
              replace hI := hI.2
              have f20 := hide hI.1
              replace hI := hI.2
              have f21 := hide hI.1
              replace hI := hI.2
              have f22 := hide hI.1
              replace hI := hI.2
              have f23 := hide hI.1
              replace hI := hI.2
              have f24 := hide hI.1
              replace hI := hI.2
              have f25 := hide hI.1
              replace hI := hI.2
              have f26 := hide hI.1
              replace hI := hI.2
              have f27 := hide hI.1
              replace hI := hI.2
              have f28 := hide hI.1
              replace hI := hI.2
              have f29 := hide hI.1
              replace hI := hI.2
              have f30 := hide hI.1
              replace hI := hI.2
              have f31 := hide hI.1
              replace hI := hI.2
              have f32 := hide hI.1
              replace hI := hI.2
              have f33 := hide hI.1
              replace hI := hI.2
              have f34 := hide hI.1
              replace hI := hI.2
              have f35 := hide hI
              clear hI
              have m0 := keep hG m0
              have m1 := keep hG m1
              have m2 := keep hG m2
              obtain rfl := f16.out (hD.on 16 (by kernel_rfl))
              obtain rfl := f23.out (hD.on 23 (by kernel_rfl))
              try simp only [puts, Act.put, List.setIfInBounds_toArray, List.set_cons_zero, List.set_cons_succ]
              try go_simp
              exact hK.out _ _ _ (by simp only [puts, Act.put, List.setIfInBounds_toArray, List.set_cons_zero, List.set_cons_succ] <;> rfl) ⟨hG, (fun h => f0.out h), (fun h => f1.out h), (fun h => f2.out h), (fun h => f3.out h), (fun h => f4.out h), (fun h => f5.out h), (fun h => f6.out h), (fun h => f7.out h), (fun h => f8.out h), (fun h => f9.out h), (fun h => f10.out h), (fun h => f11.out h), (fun h => f12.out h), (fun h => f13.out h), (fun h => f14.out h), (fun h => f15.out h), (fun h => f16.out h), (fun h => f17.out h), (fun h => f18.out h), (fun h => f19.out h), (fun h => f20.out h), (fun h => f21.out h), (fun h => f22.out h), (fun h => f23.out h), (fun _ => rfl), (fun h => f25.out h), (fun h => f26.out h), (fun h => f27.out h), (fun h => f28.out h), (fun h => f29.out h), (fun h => f30.out h), (fun h => f31.out h), (fun h => f32.out h), (fun h => f33.out h), (fun h => f34.out h), (fun h => f35.out h)⟩
            · intro L vs W hlen hL hD hI K hK
              obtain ⟨x0, x1, x2, x3, x4, x5, x6, x7, x8, x9, x10, x11, x12, x13, x14, x15, x16, x17, x18, x19, x20, x21, x22, x23, x24, x25, x26, x27, x28, x29, x30, x31, x32, x33, x34, x35, rfl⟩ := len36 hlen
              have hG := hI.1
              replace hI := hI.2
              have f0 := hide hI.1
              replace hI := hI.2
              have f1 := hide hI.1
              replace hI := hI.2
              have f2 := hide hI.1
              replace hI := hI.2
              have f3 := hide hI.1
              replace hI := hI.2
              have f4 := hide hI.1
              replace hI := hI.2
              have f5 := hide hI.1
              replace hI := hI.2
              have f6 := hide hI.1
              replace hI := hI.2
              have f7 := hide hI.1
              replace hI := hI.2
              have f8 := hide hI.1
              replace hI := hI.2
              have f9 := hide hI.1
              replace hI := hI.2
              have f10 := hide hI.1
              replace hI := hI.2
              have f11 := hide hI.1
              replace hI := hI.2
              have f12 := hide hI.1
              replace hI := hI.2
              have f13 := hide hI.1
              replace hI := hI.2
              have f14 := hide hI.1
              replace hI := hI.2
              have f15 := hide hI.1
              replace hI := hI.2
              have f16 := hide hI.1
              replace hI := hI.2
              have f17 := hide hI.1
              replace hI := hI.2
              have f18 := hide hI.1
              replace hI := hI.2
              have f19 := hide hI.1
              replace hI := hI.2
              have f20 := hide hI.1
              replace hI := hI.2
              have f21 := hide hI.1
              replace hI := hI.2
              have f22 := hide hI.1
              replace hI := hI.2
              have f23 := hide hI.1
              replace hI := hI.2
              have f24 := hide hI.1
              replace hI := hI.2
              have f25 := hide hI.1
              replace hI := hI.2
              have f26 := hide hI.1
              replace hI := hI.2
              have f27 := hide hI.1
              replace hI := hI.2
              have f28 := hide hI.1
              replace hI := hI.2
              have f29 := hide hI.1
              replace hI := hI.2
              have f30 := hide hI.1
              replace hI := hI.2
              have f31 := hide hI.1
              replace hI := hI.2
              have f32 := hide hI.1
              replace hI := hI.2
              have f33 := hide hI.1
              replace hI := hI.2
              have f34 := hide hI.1
              replace hI := hI.2
              have f35 := hide hI
              clear hI
              have m0 := keep hG m0
              have m1 := keep hG m1
              have m2 := keep hG m2
              obtain rfl := f16.out (hD.on 16 (by kernel_rfl))
              obtain rfl := f24.out (hD.on 24 (by kernel_rfl))
              try simp only [puts, Act.put, List.setIfInBounds_toArray, List.set_cons_zero, List.set_cons_succ]
              try go_simp
              exact hK.out _ _ _ (by simp only [puts, Act.put, List.setIfInBounds_toArray, List.set_cons_zero, List.set_cons_succ] <;> rfl) ⟨hG, (fun h => f0.out h), (fun h => f1.out h), (fun h => f2.out h), (fun h => f3.out h), (fun h => f4.out h), (fun h => f5.out h), (fun h => f6.out h), (fun h => f7.out h), (fun h => f8.out h), (fun h => f9.out h), (fun h => f10.out h), (fun h => f11.out h), (fun h => f12.out h), (fun h => f13.out h), (fun h => f14.out h), (fun h => f15.out h), (fun h => f16.out h), (fun h => f17.out h), (fun h => f18.out h), (fun h => f19.out h), (fun h => f20.out h), (fun h => f21.out h), (fun h => f22.out h), (fun h => f23.out h), (fun h => f24.out h), (fun _ => rfl), (fun h => f26.out h), (fun h => f27.out h), (fun h => f28.out h), (fun h => f29.out h), (fun h => f30.out h), (fun h => f31.out h), (fun h => f32.out h), (fun h => f33.out h), (fun h => f34.out h), (fun h => f35.out h)⟩
            · intro L vs W hlen hL hD hI K hK
              obtain ⟨x0, x1, x2, x3, x4, x5, x6, x7, x8, x9, x10, x11, x12, x13, x14, x15, x16, x17, x18, x19, x20, x21, x22, x23, x24, x25, x26, x27, x28, x29, x30, x31, x32, x33, x34, x35, rfl⟩ := len36 hlen
              have hG := hI.1
              replace hI := hI.2
              have f0 := hide hI.1
              replace hI := hI.2
              have f1 := hide hI.1
              replace hI := hI.2
              have f2 := hide hI.1
              replace hI := hI.2
              have f3 := hide hI.1
              replace hI := hI.2
              have f4 := hide hI.1
              replace hI := hI.2
              have f5 := hide hI.1
              replace hI := hI.2
              have f6 := hide hI.1
              replace hI := hI.2
              have f7 := hide hI.1
              replace hI := hI.2
              have f8 := hide hI.1
              replace hI := hI.2
              have f9 := hide hI.1
              replace hI := hI.2
              have f10 := hide hI.1
              replace hI := hI.2
              have f11 := hide hI.1
              replace hI := hI.2
              have f12 := hide hI.1
              replace hI := hI.2
              have f13 := hide hI.1
              replace hI := hI.2
              have f14 := hide hI.1
              replace hI := hI.2
              have f15 := hide hI.1
              replace hI := hI.2
              have f16 := hide hI.1
              replace hI := hI.2
              have f17 := hide hI.1
              replace hI := hI.2
              have f18 := hide hI.1
              replace hI := hI.2
              have f19 := hide hI.1
              replace hI := hI.2
              have f20 := hide hI.1
              replace hI := hI.2
              have f21 := hide hI.1
              replace hI := hI.2
              have f22 := hide hI.1
              replace hI := hI.2
              have f23 := hide hI.1
              replace hI := hI.2
              have f24 := hide hI.1
              replace hI := hI.2
              have f25 := hide hI.1
              replace hI := hI.2
              have f26 := hide hI.1
              replace hI := hI.2
              have f27 := hide hI.1
              replace hI := hI.2
              have f28 := hide hI.1
              replace hI := hI.2
              have f29 := hide hI.1
              replace hI := hI.2
              have f30 := hide hI.1
              replace hI := hI.2
              have f31 := hide hI.1
              replace hI := hI.2
              have f32 := hide hI.1
              replace hI := hI.2
              have f33 := hide hI.1
              replace hI := hI.2
              have f34 := hide hI.1
              replace hI := hI.2
              have f35 := hide hI
              clear hI
              have m0 := keep hG m0
              have m1 := keep hG m1
              have m2 := keep hG m2
              obtain rfl := f25.out (hD.on 25 (by kernel_rfl))
              try simp only [puts, Act.put, List.setIfInBounds_toArray, List.set_cons_zero, List.set_cons_succ]
              try go_simp
              exact hK.out _ _ _ (by simp only [puts, Act.put, List.setIfInBounds_toArray, List.set_cons_zero, List.set_cons_succ] <;> rfl) ⟨hG, (fun h => f0.out h), (fun h => f1.out h), (fun h => f2.out h), (fun h => f3.out h), (fun h => f4.out h), (fun h => f5.out h), (fun h => f6.out h), (fun h => f7.out h), (fun h => f8.out h), (fun h => f9.out h), (fun h => f10.out h), (fun h => f11.out h), (fun h => f12.out h), (fun h => f13.out h), (fun h => f14.out h), (fun h => f15.out h), (fun h => f16.out h), (fun h => f17.out h), (fun h => f18.out h), (fun h => f19.out h), (fun h => f20.out h), (fun h => f21.out h), (fun h => f22.out h), (fun h => f23.out h), (fun h => f24.out h), (fun h => f25.out h), (fun _ => rfl), (fun h => f27.out h), (fun h => f28.out h), (fun h => f29.out h), (fun h => f30.out h), (fun h => f31.out h), (fun h => f32.out h), (fun h => f33.out h), (fun h => f34.out h), (fun h => f35.out h)⟩
            · intro L vs W hlen hL hD hI K hK
              obtain ⟨x0, x1, x2, x3, x4, x5, x6, x7, x8, x9, x10, x11, x12, x13, x14, x15, x16, x17, x18, x19, x20, x21, x22, x23, x24, x25, x26, x27, x28, x29, x30, x31, x32, x33, x34, x35, rfl⟩ := len36 hlen
              have hG := hI.1
              replace hI := hI.2
              have f0 := hide hI.1
              replace hI := hI.2
              have f1 := hide hI.1
              replace hI := hI.2
              have f2 := hide hI.1
              replace hI := hI.2
              have f3 := hide hI.1
              replace hI := hI.2
              have f4 := hide hI.1
              replace hI := hI.2
              have f5 := hide hI.1
              replace hI := hI.2
              have f6 := hide hI.1
              replace hI := hI.2
              have f7 := hide hI.1
              replace hI := hI.2
              have f8 := hide hI.1
              replace hI := hI.2
              have f9 := hide hI.1
              replace hI := hI.2
              have f10 := hide hI.1
              replace hI := hI.2
              have f11 := hide hI.1
              replace hI := hI.2
              have f12 := hide hI.1
              replace hI := hI.2
              have f13 := hide hI.1
              replace hI := hI.2
              have f14 := hide hI.1
              replace hI := hI.2
              have f15 := hide hI.1
              replace hI := hI.2
              have f16 := hide hI.1
              replace hI := hI.2
              have f17 := hide hI.1
              replace hI := hI.2
              have f18 := hide hI.1
              replace hI := hI.2
              have f19 := hide hI.1
              replace hI := hI.2
              have f20 := hide hI.1
              replace hI := hI.2
              have f21 := hide hI.1
              replace hI := hI.2
              have f22 := hide hI.1
              replace hI := hI.2
              have f23 := hide hI.1
              replace hI := hI.2
              have f24 := hide hI.1
              replace hI := hI.2
              have f25 := hide hI.1
              replace hI := hI.2
              have f26 := hide hI.1
              replace hI := hI.2
              have f27 := hide hI.1
              replace hI := hI.2
              have f28 := hide hI.1
              replace hI := hI.2
              have f29 := hide hI.1
              replace hI := hI.2
              have f30 := hide hI.1
              replace hI := hI.2
              have f31 := hide hI.1
              replace hI := hI.2
              have f32 := hide hI.1
              replace hI := hI.2
              have f33 := hide hI.1
              replace hI := hI.2
              have f34 := hide hI.1
              replace hI := hI.2
              have f35 := hide hI
              clear hI
              have m0 := keep hG m0
              have m1 := keep hG m1
              have m2 := keep hG m2
              obtain rfl := f26.out (hD.on 26 (by kernel_rfl))
              try simp only [puts, Act.put, List.setIfInBounds_toArray, List.set_cons_zero, List.set_cons_succ]
              try go_simp
              exact hK.out _ _ _ (by simp only [puts, Act.put, List.setIfInBounds_toArray, List.set_cons_zero, List.set_cons_succ] <;> rfl) ⟨hG, (fun h => f0.out h), (fun h => f1.out h), (fun h => f2.out h), (fun h => f3.out h), (fun h => f4.out h), (fun h => f5.out h), (fun h => f6.out h), (fun h => f7.out h), (fun h => f8.out h), (fun h => f9.out h), (fun h => f10.out h), (fun h => f11.out h), (fun h => f12.out h), (fun h => f13.out h), (fun h => f14.out h), (fun h => f15.out h), (fun h => f16.out h), (fun h => f17.out h), (fun h => f18.out h), (fun h => f19.out h), (fun h => f20.out h), (fun h => f21.out h), (fun h => f22.out h), (fun h => f23.out h), (fun h => f24.out h), (fun h => f25.out h), (fun h => f26.out h), (fun _ => rfl), (fun h => f28.out h), (fun h => f29.out h), (fun h => f30.out h), (fun h => f31.out h), (fun h => f32.out h), (fun h => f33.out h), (fun h => f34.out h), (fun h => f35.out h)⟩
            · intro L vs W hlen hL hD hI K hK
              obtain ⟨x0, x1, x2, x3, x4, x5, x6, x7, x8, x9, x10, x11, x12, x13, x14, x15, x16, x17, x18, x19, x20, x21, x22, x23, x24, x25, x26, x27, x28, x29, x30, x31, x32, x33, x34, x35, rfl⟩ := len36 hlen
              have hG := hI.1
              replace hI := hI.2
              have f0 := hide hI.1
              replace hI := hI.2
              have f1 := hide hI.1
              replace hI := hI.2
              have f2 := hide hI.1
              replace hI := hI.2
              have f3 := hide hI.1
              replace hI := hI.2
              have f4 := hide hI.1
              replace hI := hI.2
              have f5 := hide hI.1
              replace hI := hI.2
              have f6 := hide hI.1
              replace hI := hI.2
              have f7 := hide hI.1
              replace hI := hI.2
              have f8 := hide hI.1
              replace hI := hI.2
              have f9 := hide hI.1
              replace hI := hI.2
              have f10 := hide hI.1
              replace hI := hI.2
              have f11 := hide hI.1
              replace hI := hI.2
              have f12 := hide hI.1
              replace hI := hI.2
              have f13 := hide hI.1
              replace hI := hI.2
              have f14 := hide hI.1
              replace hI := hI.2
              have f15 := hide hI.1
              replace hI := hI.2
              have f16 := hide hI.1
              replace hI := hI.2
              have f17 := hide hI.1
              replace hI := hI.2
              have f18 := hide hI.1
              replace hI := hI.2
              have f19 := hide hI.1
              replace hI := hI.2
              have f20 := hide hI.1
              replace hI := hI.2
              have f21 := hide hI.1
              replace hI := hI.2
              have f22 := hide hI.1
              replace hI := hI.2
              have f23 := hide hI.1
              replace hI := hI.2
              have f24 := hide hI.1
              replace hI := hI.2
              have f25 := hide hI.1
              replace hI := hI.2
              have f26 := hide hI.1
              replace hI := hI.2
              have f27 := hide hI.1
              replace hI := hI.2
              have f28 := hide hI.1
              replace hI := hI.2
              have f29 := hide hI.1
              replace hI := hI.2
              have f30 := hide hI.1
              replace hI := hI.2
              have f31 := hide hI.1
              replace hI := hI.2
              have f32 := hide hI.1
              replace hI := hI.2
              have f33 := hide hI.1
              replace hI := hI.2
              have f34 := hide hI.1
              replace hI := hI.2
              have f35 := hide hI
              clear hI
              have m0 := keep hG m0
              have m1 := keep hG m1
              have m2 := keep hG m2
              obtain rfl := f26.out (hD.on 26 (by kernel_rfl))
              try simp only [puts, Act.put, List.setIfInBounds_toArray, List.set_cons_zero, List.set_cons_succ]
              try go_simp
              exact hK.out _ _ _ (by simp only [puts, Act.put, List.setIfInBounds_toArray, List.set_cons_zero, List.set_cons_succ] <;> rfl) ⟨hG, (fun h => f0.out h), (fun h => f1.out h), (fun h => f2.out h), (fun h => f3.out h), (fun h => f4.out h), (fun h => f5.out h), (fun h => f6.out h), (fun h => f7.out h), (fun h => f8.out h), (fun h => f9.out h), (fun h => f10.out h), (fun h => f11.out h), (fun h => f12.out h), (fun h => f13.out h), (fun h => f14.out h), (fun h => f15.out h), (fun h => f16.out h), (fun h => f17.out h), (fun h => f18.out h), (fun h => f19.out h), (fun h => f20.out h), (fun h => f21.out h), (fun h => f22.out h), (fun h => f23.out h), (fun h => f24.out h), (fun h => f25.out h), (fun h => f26.out h), (fun h => f27.out h), (fun _ => rfl), (fun h => f29.out h), (fun h => f30.out h), (fun h => f31.out h), (fun h => f32.out h), (fun h => f33.out h), (fun h => f34.out h), (fun h => f35.out h)⟩
            · intro L vs W hlen hL hD hI K hK
              obtain ⟨x0, x1, x2, x3, x4, x5, x6, x7, x8, x9, x10, x11, x12, x13, x14, x15, x16, x17, x18, x19, x20, x21, x22, x23, x24, x25, x26, x27, x28, x29, x30, x31, x32, x33, x34, x35, rfl⟩ := len36 hlen
              have hG := hI.1
              replace hI := hI.2
              have f0 := hide hI.1
              replace hI := hI.2
              have f1 := hide hI.1
              replace hI := hI.2
              have f2 := hide hI.1
              replace hI := hI.2
              have f3 := hide hI.1
              replace hI := hI.2
              have f4 := hide hI.1
              replace hI := hI.2
              have f5 := hide hI.1
              replace hI := hI.2
              have f6 := hide hI.1
              replace hI := hI.2
              have f7 := hide hI.1
              replace hI := hI.2
              have f8 := hide hI.1
              replace hI := hI.2
              have f9 := hide hI.1
              replace hI := hI.2
              have f10 := hide hI.1
              replace hI := hI.2
              have f11 := hide hI.1
              replace hI := hI.2
              have f12 := hide hI.1
              replace hI := hI.2
              have f13 := hide hI.1
              replace hI := hI.2
              have f14 := hide hI.1
              replace hI := hI.2
              have f15 := hide hI.1
              replace hI := hI.2
              have f16 := hide hI.1
              replace hI := hI.2
              have f17 := hide hI.1
              replace hI := hI.2
              have f18 := hide hI.1
              replace hI := hI.2
              have f19 := hide hI.1
              replace hI := hI.2
              have f20 := hide hI.1
              replace hI := hI.2
              have f21 := hide hI.1
              replace hI := hI.2
              have f22 := hide hI.1
              replace hI := hI.2
              have f23 := hide hI.1
              replace hI := hI.2
              have f24 := hide hI.1
              replace hI := hI.2
              have f25 := hide hI.1
              replace hI := hI.2
              have f26 := hide hI.1
              replace hI := hI.2
              have f27 := hide hI.1
              replace hI := hI.2
              have f28 := hide hI.1
              replace hI := hI.2
              have f29 := hide hI.1
              replace hI := hI.2
              have f30 := hide hI.1
              replace hI := hI.2
              have f31 := hide hI.1
              replace hI := hI.2
              have f32 := hide hI.1
              replace hI := hI.2
              have f33 := hide hI.1
              replace hI := hI.2
              have f34 := hide hI.1
              replace hI := hI.2
              have f35 := hide hI
              clear hI
              have m0 := keep hG m0
              have m1 := keep hG m1
              have m2 := keep hG m2
              obtain rfl := f26.out (hD.on 26 (by kernel_rfl))
              obtain rfl := f27.out (hD.on 27 (by kernel_rfl))
              obtain rfl := f28.out (hD.on 28 (by kernel_rfl))
              try simp only [puts, Act.put, List.setIfInBounds_toArray, List.set_cons_zero, List.set_cons_succ]
              try go_simp
              exact hK.out _ _ _ (by simp only [puts, Act.put, List.setIfInBounds_toArray, List.set_cons_zero, List.set_cons_succ] <;> rfl) ⟨hG, (fun h => f0.out h), (fun h => f1.out h), (fun h => f2.out h), (fun h => f3.out h), (fun h => f4.out h), (fun h => f5.out h), (fun h => f6.out h), (fun h => f7.out h), (fun h => f8.out h), (fun h => f9.out h), (fun h => f10.out h), (fun h => f11.out h), (fun h => f12.out h), (fun h => f13.out h), (fun h => f14.out h), (fun h => f15.out h), (fun h => f16.out h), (fun h => f17.out h), (fun h => f18.out h), (fun h => f19.out h), (fun h => f20.out h), (fun h => f21.out h), (fun h => f22.out h), (fun h => f23.out h), (fun h => f24.out h), (fun h => f25.out h), (fun h => f26.out h), (fun h => f27.out h), (fun h => f28.out h), (fun _ => rfl), (fun h => f30.out h), (fun h => f31.out h), (fun h => f32.out h), (fun h => f33.out h), (fun h => f34.out h), (fun h => f35.out h)⟩
            · intro L vs W hlen hL hD hI K hK
              obtain ⟨x0, x1, x2, x3, x4, x5, x6, x7, x8, x9, x10, x11, x12, x13, x14, x15, x16, x17, x18, x19, x20, x21, x22, x23, x24, x25, x26, x27, x28, x29, x30, x31, x32, x33, x34, x35, rfl⟩ := len36 hlen
              have hG := hI.1
              replace hI := hI.2
              have f0 := hide hI.1
              replace hI := hI.2
              have f1 := hide hI.1
              replace hI := hI.2
              have f2 := hide hI.1
              replace hI := hI.2
              have f3 := hide hI.1
              replace hI := hI.2
              have f4 := hide hI.1
              replace hI := hI.2
              have f5 := hide hI.1
              replace hI := hI.2
              have f6 := hide hI.1
              replace hI := hI.2
              have f7 := hide hI.1
              replace hI := hI.2
              have f8 := hide hI.1
              replace hI := hI.2
              have f9 := hide hI.1
              replace hI := hI.2
              have f10 := hide hI.1
              replace hI := hI.2
              have f11 := hide hI.1
              replace hI := hI.2
              have f12 := hide hI.1
              replace hI := hI.2
              have f13 := hide hI.1
              replace hI := hI.2
              have f14 := hide hI.1
              replace hI := hI.2
              have f15 := hide hI.1
              replace hI := hI.2
              have f16 := hide hI.1
              replace hI := hI.2
              have f17 := hide hI.1
              replace hI := hI.2
              have f18 := hide hI.1
              replace hI := hI.2
              have f19 := hide hI.1
              replace hI := hI.2
              have f20 := hide hI.1
              replace hI := hI.2
              have f21 := hide hI.1
              replace hI := hI.2
              have f22 := hide hI.1
              replace hI := hI.2
              have f23 := hide hI.1
              replace hI := hI.2
              have f24 := hide hI.1
              replace hI := hI.2
              have f25 := hide hI.1
              replace hI := hI.2
              have f26 := hide hI.1
              replace hI := hI.2
              have f27 := hide hI.1
              replace hI := hI.2
              have f28 := hide hI.1
              replace hI := hI.2
              have f29 := hide hI.1
              replace hI := hI.2
              have f30 := hide hI.1
              replace hI := hI.2
              have f31 := hide hI.1
              replace hI := hI.2
              have f32 := hide hI.1
              replace hI := hI.2
              have f33 := hide hI.1
              replace hI := hI.2
              have f34 := hide hI.1
              replace hI := hI.2
              have f35 := hide hI
              clear hI
              have m0 := keep hG m0
              have m1 := keep hG m1
              have m2 := keep hG m2
              obtain rfl := f26.out (hD.on 26 (by kernel_rfl))
              obtain rfl := f29.out (hD.on 29 (by kernel_rfl))
              try simp only [puts, Act.put, List.setIfInBounds_toArray, List.set_cons_zero, List.set_cons_succ]
              try go_simp
              exact hK.out _ _ _ (by simp only [puts, Act.put, List.setIfInBounds_toArray, List.set_cons_zero, List.set_cons_succ] <;> rfl) ⟨hG, (fun h => f0.out h), (fun h => f1.out h), (fun h => f2.out h), (fun h => f3.out h), (fun h => f4.out h), (fun h => f5.out h), (fun h => f6.out h), (fun h => f7.out h), (fun h => f8.out h), (fun h => f9.out h), (fun h => f10.out h), (fun h => f11.out h), (fun h => f12.out h), (fun h => f13.out h), (fun h => f14.out h), (fun h => f15.out h), (fun h => f16.out h), (fun h => f17.out h), (fun h => f18.out h), (fun h => f19.out h), (fun h => f20.out h), (fun h => f21.out h), (fun h => f22.out h), (fun h => f23.out h), (fun h => f24.out h), (fun h => f25.out h), (fun h => f26.out h), (fun h => f27.out h), (fun h => f28.out h), (fun h => f29.out h), (fun _ => rfl), (fun h => f31.out h), (fun h => f32.out h), (fun h => f33.out h), (fun h => f34.out h), (fun h => f35.out h)⟩
            · intro L vs W hlen hL hD hI K hK
              obtain ⟨x0, x1, x2, x3, x4, x5, x6, x7, x8, x9, x10, x11, x12, x13, x14, x15, x16, x17, x18, x19, x20, x21, x22, x23, x24, x25, x26, x27, x28, x29, x30, x31, x32, x33, x34, x35, rfl⟩ := len36 hlen
              have hG := hI.1
              replace hI := hI.2
              have f0 := hide hI.1
              replace hI := hI.2
              have f1 := hide hI.1
              replace hI := hI.2
              have f2 := hide hI.1
              replace hI := hI.2
              have f3 := hide hI.1
              replace hI := hI.2
              have f4 := hide hI.1
              replace hI := hI.2
              have f5 := hide hI.1
              replace hI := hI.2
              have f6 := hide hI.1
              replace hI := hI.2
              have f7 := hide hI.1
              replace hI := hI.2
              have f8 := hide hI.1
              replace hI := hI.2
              have f9 := hide hI.1
              replace hI := hI.2
              have f10 := hide hI.1
              replace hI := hI.2
              have f11 := hide hI.1
              replace hI := hI.2
              have f12 := hide hI.1
              replace hI := hI.2
              have f13 := hide hI.1
              replace hI := hI.2
              have f14 := hide hI.1
              replace hI := hI.2
              have f15 := hide hI.1
              replace hI := hI.2
              have f16 := hide hI.1
              replace hI := hI.2
              have f17 := hide hI.1
              replace hI := hI.2
              have f18 := hide hI.1
              replace hI := hI.2
              have f19 := hide hI.1
              replace hI := hI.2
              have f20 := hide hI.1
              replace hI := hI.2
              have f21 := hide hI.1
              replace hI := hI.2
              have f22 := hide hI.1
              replace hI := hI.2
              have f23 := hide hI.1
              replace hI := hI.2
              have f24 := hide hI.1
              replace hI := hI.2
              have f25 := hide hI.1
              replace hI := hI.2
              have f26 := hide hI.1
              replace hI := hI.2
              have f27 := hide hI.1
              replace hI := hI.2
              have f28 := hide hI.1
              replace hI := hI.2
              have f29 := hide hI.1
              replace hI := hI.2
              have f30 := hide hI.1
              replace hI := hI.2
              have f31 := hide hI.1
              replace hI := hI.2
              have f32 := hide hI.1
              replace hI := hI.2
              have f33 := hide hI.1
              replace hI := hI.2
              have f34 := hide hI.1
              replace hI := hI.2
              have f35 := hide hI
              clear hI
              have m0 := keep hG m0
              have m1 := keep hG m1
              have m2 := keep hG m2
              obtain rfl := f30.out (hD.on 30 (by kernel_rfl))
              try simp only [puts, Act.put, List.setIfInBounds_toArray, List.set_cons_zero, List.set_cons_succ]
              try go_simp
              exact hK.out _ _ _ (by simp only [puts, Act.put, List.setIfInBounds_toArray, List.set_cons_zero, List.set_cons_succ] <;> rfl) ⟨hG, (fun h => f0.out h), (fun h => f1.out h), (fun h => f2.out h), (fun h => f3.out h), (fun h => f4.out h), (fun h => f5.out h), (fun h => f6.out h), (fun h => f7.out h), (fun h => f8.out h), (fun h => f9.out h), (fun h => f10.out h), (fun h => f11.out h), (fun h => f12.out h), (fun h => f13.out h), (fun h => f14.out h), (fun h => f15.out h), (fun h => f16.out h), (fun h => f17.out h), (fun h => f18.out h), (fun h => f19.out h), (fun h => f20.out h), (fun h => f21.out h), (fun h => f22.out h), (fun h => f23.out h), (fun h => f24.out h), (fun h => f25.out h), (fun h => f26.out h), (fun h => f27.out h), (fun h => f28.out h), (fun h => f29.out h), (fun h => f30.out h), (fun _ => rfl), (fun h => f32.out h), (fun h => f33.out h), (fun h => f34.out h), (fun h => f35.out h)⟩
            · intro L vs W hlen hL hD hI K hK
              obtain ⟨x0, x1, x2, x3, x4, x5, x6, x7, x8, x9, x10, x11, x12, x13, x14, x15, x16, x17, x18, x19, x20, x21, x22, x23, x24, x25, x26, x27, x28, x29, x30, x31, x32, x33, x34, x35, rfl⟩ := len36 hlen
              have hG := hI.1
              replace hI := hI.2
              have f0 := hide hI.1
              replace hI := hI.2
              have f1 := hide hI.1
              replace hI := hI.2
              have f2 := hide hI.1
              replace hI := hI.2
              have f3 := hide hI.1
              replace hI := hI.2
              have f4 := hide hI.1
              replace hI := hI.2
              have f5 := hide hI.1
              replace hI := hI.2
              have f6 := hide hI.1
              replace hI := hI.2
              have f7 := hide hI.1
              replace hI := hI.2
              have f8 := hide hI.1
              replace hI := hI.2
              have f9 := hide hI.1
              replace hI := hI.2
              have f10 := hide hI.1
              replace hI := hI.2
              have f11 := hide hI.1
              replace hI := hI.2
              have f12 := hide hI.1
              replace hI := hI.2
              have f13 := hide hI.1
              replace hI := hI.2
              have f14 := hide hI.1
              replace hI := hI.2
              have f15 := hide hI.1
              replace hI := hI.2
              have f16 := hide hI.1
              replace hI := hI.2
              have f17 := hide hI.1
              replace hI := hI.2
              have f18 := hide hI.1
              replace hI := hI.2
              have f19 := hide hI.1
              replace hI := hI.2
              have f20 := hide hI.1
              replace hI := hI.2
              have f21 := hide hI.1
              replace hI := hI.2
              have f22 := hide hI.1
              replace hI := hI.2
              have f23 := hide hI.1
              replace hI := hI.2
              have f24 := hide hI.1
              replace hI := hI.2
              have f25 := hide hI.1
              replace hI := hI.2
              have f26 := hide hI.1
              replace hI := hI.2
              have f27 := hide hI.1
              replace hI := hI.2
              have f28 := hide hI.1
              replace hI := hI.2
              have f29 := hide hI.1
              replace hI := hI.2
              have f30 := hide hI.1
              replace hI := hI.2
              have f31 := hide hI.1
              replace hI := hI.2
              have f32 := hide hI.1
              replace hI := hI.2
              have f33 := hide hI.1
              replace hI := hI.2
              have f34 := hide hI.1
              replace hI := hI.2
              have f35 := hide hI
              clear hI
              have m0 := keep hG m0
              have m1 := keep hG m1
              have m2 := keep hG m2
              obtain rfl := f31.out (hD.on 31 (by kernel_rfl))
              try simp only [puts, Act.put, List.setIfInBounds_toArray, List.set_cons_zero, List.set_cons_succ]
              try go_simp
              exact hK.out _ _ _ (by simp only [puts, Act.put, List.setIfInBounds_toArray, List.set_cons_zero, List.set_cons_succ] <;> rfl) ⟨hG, (fun h => f0.out h), (fun h => f1.out h), (fun h => f2.out h), (fun h => f3.out h), (fun h => f4.out h), (fun h => f5.out h), (fun h => f6.out h), (fun h => f7.out h), (fun h => f8.out h), (fun h => f9.out h), (fun h => f10.out h), (fun h => f11.out h), (fun h => f12.out h), (fun h => f13.out h), (fun h => f14.out h), (fun h => f15.out h), (fun h => f16.out h), (fun h => f17.out h), (fun h => f18.out h), (fun h => f19.out h), (fun h => f20.out h), (fun h => f21.out h), (fun h => f22.out h), (fun h => f23.out h), (fun h => f24.out h), (fun h => f25.out h), (fun h => f26.out h), (fun h => f27.out h), (fun h => f28.out h), (fun h => f29.out h), (fun h => f30.out h), (fun h => f31.out h), (fun _ => rfl), (fun h => f33.out h), (fun h => f34.out h), (fun h => f35.out h)⟩
            · intro L vs W hlen hL hD hI K hK
              obtain ⟨x0, x1, x2, x3, x4, x5, x6, x7, x8, x9, x10, x11, x12, x13, x14, x15, x16, x17, x18, x19, x20, x21, x22, x23, x24, x25, x26, x27, x28, x29, x30, x31, x32, x33, x34, x35, rfl⟩ := len36 hlen
              have hG := hI.1
              replace hI := hI.2
              have f0 := hide hI.1
              replace hI := hI.2
              have f1 := hide hI.1
              replace hI := hI.2
              have f2 := hide hI.1
              replace hI := hI.2
              have f3 := hide hI.1
              replace hI := hI.2
              have f4 := hide hI.1
              replace hI := hI.2
              have f5 := hide hI.1
              replace hI := hI.2
              have f6 := hide hI.1
              replace hI := hI.2
              have f7 := hide hI.1
              replace hI := hI.2
              have f8 := hide hI.1
              replace hI := hI.2
              have f9 := hide hI.1
              replace hI := hI.2
              have f10 := hide hI.1
              replace hI := hI.2
              have f11 := hide hI.1
              replace hI := hI.2
              have f12 := hide hI.1
              replace hI := hI.2
              have f13 := hide hI.1
              replace hI := hI.2
              have f14 := hide hI.1
              replace hI := hI.2
              have f15 := hide hI.1
              replace hI := hI.2
              have f16 := hide hI.1
              replace hI := hI.2
              have f17 := hide hI.1
              replace hI := hI.2
              have f18 := hide hI.1
              replace hI := hI.2
              have f19 := hide hI.1
              replace hI := hI.2
              have f20 := hide hI.1
              replace hI := hI.2
              have f21 := hide hI.1
              replace hI := hI.2
              have f22 := hide hI.1
              replace hI := hI.2
              have f23 := hide hI.1
              replace hI := hI.2
              have f24 := hide hI.1
              replace hI := hI.2
              have f25 := hide hI.1
              replace hI := hI.2
              have f26 := hide hI.1
              replace hI := hI.2
              have f27 := hide hI.1
              replace hI := hI.2
              have f28 := hide hI.1
              replace hI := hI.2
              have f29 := hide hI.1
              replace hI := hI.2
              have f30 := hide hI.1
              replace hI := hI.2
              have f31 := hide hI.1
              replace hI := hI.2
              have f32 := hide hI.1
              replace hI := hI.2
              have f33 := hide hI.1
              replace hI := hI.2
              have f34 := hide hI.1
              replace hI := hI.2
              have f35 := hide hI
              clear hI
              have m0 := keep hG m0
              have m1 := keep hG m1
              have m2 := keep hG m2
              obtain rfl := f31.out (hD.on 31 (by kernel_rfl))
              try simp only [puts, Act.put, List.setIfInBounds_toArray, List.set_cons_zero, List.set_cons_succ]
              try go_simp
              exact hK.out _ _ _ (by simp only [puts, Act.put, List.setIfInBounds_toArray, List.set_cons_zero, List.set_cons_succ] <;> rfl) ⟨hG, (fun h => f0.out h), (fun h => f1.out h), (fun h => f2.out h), (fun h => f3.out h), (fun h => f4.out h), (fun h => f5.out h), (fun h => f6.out h), (fun h => f7.out h), (fun h => f8.out h), (fun h => f9.out h), (fun h => f10.out h), (fun h => f11.out h), (fun h => f12.out h), (fun h => f13.out h), (fun h => f14.out h), (fun h => f15.out h), (fun h => f16.out h), (fun h => f17.out h), (fun h => f18.out h), (fun h => f19.out h), (fun h => f20.out h), (fun h => f21.out h), (fun h => f22.out h), (fun h => f23.out h), (fun h => f24.out h), (fun h => f25.out h), (fun h => f26.out h), (fun h => f27.out h), (fun h => f28.out h), (fun h => f29.out h), (fun h => f30.out h), (fun h => f31.out h), (fun h => f32.out h), (fun _ => rfl), (fun h => f34.out h), (fun h => f35.out h)⟩
            · intro L vs W hlen hL hD hI K hK
              obtain ⟨x0, x1, x2, x3, x4, x5, x6, x7, x8, x9, x10, x11, x12, x13, x14, x15, x16, x17, x18, x19, x20, x21, x22, x23, x24, x25, x26, x27, x28, x29, x30, x31, x32, x33, x34, x35, rfl⟩ := len36 hlen
              have hG := hI.1
              replace hI := hI.2
              have f0 := hide hI.1
              replace hI := hI.2
              have f1 := hide hI.1
              replace hI := hI.2
              have f2 := hide hI.1
              replace hI := hI.2
              have f3 := hide hI.1
              replace hI := hI.2
              have f4 := hide hI.1
              replace hI := hI.2
              have f5 := hide hI.1
              replace hI := hI.2
              have f6 := hide hI.1
              replace hI := hI.2
              have f7 := hide hI.1
              replace hI := hI.2
              have f8 := hide hI.1
              replace hI := hI.2
              have f9 := hide hI.1
              replace hI := hI.2
              have f10 := hide hI.1
              replace hI := hI.2
              have f11 := hide hI.1
              replace hI := hI.2
              have f12 := hide hI.1
              replace hI := hI.2
              have f13 := hide hI.1
              replace hI := hI.2
              have f14 := hide hI.1
              replace hI := hI.2
              have f15 := hide hI.1
              replace hI := hI.2
              have f16 := hide hI.1
              replace hI := hI.2
              have f17 := hide hI.1
              replace hI := hI.2
              have f18 := hide hI.1
              replace hI := hI.2
              have f19 := hide hI.1
              replace hI := hI.2
              have f20 := hide hI.1
              replace hI := hI.2
              have f21 := hide hI.1
              replace hI := hI.2
              have f22 := hide hI.1
              replace hI := hI.2
              have f23 := hide hI.1
              replace hI := hI.2
              have f24 := hide hI.1
              replace hI := hI.2
              have f25 := hide hI.1
              replace hI := hI.2
              have f26 := hide hI.1
              replace hI := hI.2
              have f27 := hide hI.1
              replace hI := hI.2
              have f28 := hide hI.1
              replace hI := hI.2
              have f29 := hide hI.1
              replace hI := hI.2
              have f30 := hide hI.1
              replace hI := hI.2
              have f31 := hide hI.1
              replace hI := hI.2
              have f32 := hide hI.1
              replace hI := hI.2
              have f33 := hide hI.1
              replace hI := hI.2
              have f34 := hide hI.1
              replace hI := hI.2
              have f35 := hide hI
              clear hI
              have m0 := keep hG m0
              have m1 := keep hG m1
              have m2 := keep hG m2
              obtain rfl := f31.out (hD.on 31 (by kernel_rfl))
              obtain rfl := f32.out (hD.on 32 (by kernel_rfl))
              obtain rfl := f33.out (hD.on 33 (by kernel_rfl))
              try simp only [puts, Act.put, List.setIfInBounds_toArray, List.set_cons_zero, List.set_cons_succ]
              try go_simp
              exact hK.out _ _ _ (by simp only [puts, Act.put, List.setIfInBounds_toArray, List.set_cons_zero, List.set_cons_succ] <;> rfl) ⟨hG, (fun h => f0.out h), (fun h => f1.out h), (fun h => f2.out h), (fun h => f3.out h), (fun h => f4.out h), (fun h => f5.out h), (fun h => f6.out h), (fun h => f7.out h), (fun h => f8.out h), (fun h => f9.out h), (fun h => f10.out h), (fun h => f11.out h), (fun h => f12.out h), (fun h => f13.out h), (fun h => f14.out h), (fun h => f15.out h), (fun h => f16.out h), (fun h => f17.out h), (fun h => f18.out h), (fun h => f19.out h), (fun h => f20.out h), (fun h => f21.out h), (fun h => f22.out h), (fun h => f23.out h), (fun h => f24.out h), (fun h => f25.out h), (fun h => f26.out h), (fun h => f27.out h), (fun h => f28.out h), (fun h => f29.out h), (fun h => f30.out h), (fun h => f31.out h), (fun h => f32.out h), (fun h => f33.out h), (fun _ => rfl), (fun h => f35.out h)⟩
            · intro L vs W hlen hL hD hI K hK
              obtain ⟨x0, x1, x2, x3, x4, x5, x6, x7, x8, x9, x10, x11, x12, x13, x14, x15, x16, x17, x18, x19, x20, x21, x22, x23, x24, x25, x26, x27, x28, x29, x30, x31, x32, x33, x34, x35, rfl⟩ := len36 hlen
              have hG := hI.1
              replace hI := hI.2
              have f0 := hide hI.1
              replace hI := hI.2
              have f1 := hide hI.1
              replace hI := hI.2
              have f2 := hide hI.1
              replace hI := hI.2
              have f3 := hide hI.1
              replace hI := hI.2
              have f4 := hide hI.1
              replace hI := hI.2
              have f5 := hide hI.1
              replace hI := hI.2
              have f6 := hide hI.1
              replace hI := hI.2
              have f7 := hide hI.1
              replace hI := hI.2
              have f8 := hide hI.1
              replace hI := hI.2
              have f9 := hide hI.1
              replace hI := hI.2
              have f10 := hide hI.1
              replace hI := hI.2
              have f11 := hide hI.1
              replace hI := hI.2
              have f12 := hide hI.1
              replace hI := hI.2
              have f13 := hide hI.1
              replace hI := hI.2
              have f14 := hide hI.1
              replace hI := hI.2
              have f15 := hide hI.1
              replace hI := hI.2
              have f16 := hide hI.1
              replace hI := hI.2
              have f17 := hide hI.1
              replace hI := hI.2
              have f18 := hide hI.1
              replace hI := hI.2
              have f19 := hide hI.1
              replace hI := hI.2
              have f20 := hide hI.1
              replace hI := hI.2
              have f21 := hide hI.1
              replace hI := hI.2
              have f22 := hide hI.1
              replace hI := hI.2
              have f23 := hide hI.1
              replace hI := hI.2
              have f24 := hide hI.1
              replace hI := hI.2
              have f25 := hide hI.1
              replace hI := hI.2
              have f26 := hide hI.1
              replace hI := hI.2
              have f27 := hide hI.1
              replace hI := hI.2
              have f28 := hide hI.1
              replace hI := hI.2
              have f29 := hide hI.1
              replace hI := hI.2
              have f30 := hide hI.1
              replace hI := hI.2
              have f31 := hide hI.1
              replace hI := hI.2
              have f32 := hide hI.1
              replace hI := hI.2
              have f33 := hide hI.1
              replace hI := hI.2
              have f34 := hide hI.1
              replace hI := hI.2
              have f35 := hide hI
              clear hI
              have m0 := keep hG m0
              have m1 := keep hG m1
              have m2 := keep hG m2
              obtain rfl := f31.out (hD.on 31 (by kernel_rfl))
              obtain rfl := f34.out (hD.on 34 (by kernel_rfl))
              try simp only [puts, Act.put, List.setIfInBounds_toArray, List.set_cons_zero, List.set_cons_succ]
              try go_simp
              exact hK.out _ _ _ (by simp only [puts, Act.put, List.setIfInBounds_toArray, List.set_cons_zero, List.set_cons_succ] <;> rfl) ⟨hG, (fun h => f0.out h), (fun h => f1.out h), (fun h => f2.out h), (fun h => f3.out h), (fun h => f4.out h), (fun h => f5.out h), (fun h => f6.out h), (fun h => f7.out h), (fun h => f8.out h), (fun h => f9.out h), (fun h => f10.out h), (fun h => f11.out h), (fun h => f12.out h), (fun h => f13.out h), (fun h => f14.out h), (fun h => f15.out h), (fun h => f16.out h), (fun h => f17.out h), (fun h => f18.out h), (fun h => f19.out h), (fun h => f20.out h), (fun h => f21.out h), (fun h => f22.out h), (fun h => f23.out h), (fun h => f24.out h), (fun h => f25.out h), (fun h => f26.out h), (fun h => f27.out h), (fun h => f28.out h), (fun h => f29.out h), (fun h => f30.out h), (fun h => f31.out h), (fun h => f32.out h), (fun h => f33.out h), (fun h => f34.out h), (fun _ => rfl)⟩
          intro L vs W hlen hall hI
          obtain ⟨x0, x1, x2, x3, x4, x5, x6, x7, x8, x9, x10, x11, x12, x13, x14, x15, x16, x17, x18, x19, x20, x21, x22, x23, x24, x25, x26, x27, x28, x29, x30, x31, x32, x33, x34, x35, rfl⟩ := len36 hlen
          have hG := hI.1
          replace hI := hI.2
          have f0 := hide hI.1
          replace hI := hI.2
          have f1 := hide hI.1
          replace hI := hI.2
          have f2 := hide hI.1
          replace hI := hI.2
          have f3 := hide hI.1
          replace hI := hI.2
          have f4 := hide hI.1
          replace hI := hI.2
          have f5 := hide hI.1
          replace hI := hI.2
          have f6 := hide hI.1
          replace hI := hI.2
          have f7 := hide hI.1
          replace hI := hI.2
          have f8 := hide hI.1
          replace hI := hI.2
          have f9 := hide hI.1
          replace hI := hI.2
          have f10 := hide hI.1
          replace hI := hI.2
          have f11 := hide hI.1
          replace hI := hI.2
          have f12 := hide hI.1
          replace hI := hI.2
          have f13 := hide hI.1
          replace hI := hI.2
          have f14 := hide hI.1
          replace hI := hI.2
          have f15 := hide hI.1
          replace hI := hI.2
          have f16 := hide hI.1
          replace hI := hI.2
          have f17 := hide hI.1
          replace hI := hI.2
          have f18 := hide hI.1
          replace hI := hI.2
          have f19 := hide hI.1
          replace hI := hI.2
          have f20 := hide hI.1
          replace hI := hI.2
          have f21 := hide hI.1
          replace hI := hI.2
          have f22 := hide hI.1
          replace hI := hI.2
          have f23 := hide hI.1
          replace hI := hI.2
          have f24 := hide hI.1
          replace hI := hI.2
          have f25 := hide hI.1
          replace hI := hI.2
          have f26 := hide hI.1
          replace hI := hI.2
          have f27 := hide hI.1
          replace hI := hI.2
          have f28 := hide hI.1
          replace hI := hI.2
          have f29 := hide hI.1
          replace hI := hI.2
          have f30 := hide hI.1
          replace hI := hI.2
          have f31 := hide hI.1
          replace hI := hI.2
          have f32 := hide hI.1
          replace hI := hI.2
          have f33 := hide hI.1
          replace hI := hI.2
          have f34 := hide hI.1
          replace hI := hI.2
          have f35 := hide hI
          clear hI
          obtain rfl := f0.out (hall 0 (by decide))
          obtain rfl := f1.out (hall 1 (by decide))
          obtain rfl := f2.out (hall 2 (by decide))
          obtain rfl := f3.out (hall 3 (by decide))
          obtain rfl := f4.out (hall 4 (by decide))
          obtain rfl := f5.out (hall 5 (by decide))
          obtain rfl := f6.out (hall 6 (by decide))
          obtain rfl := f7.out (hall 7 (by decide))
          obtain rfl := f8.out (hall 8 (by decide))
          obtain rfl := f9.out (hall 9 (by decide))
          obtain rfl := f10.out (hall 10 (by decide))
          obtain rfl := f11.out (hall 11 (by decide))
          obtain rfl := f12.out (hall 12 (by decide))
          obtain rfl := f13.out (hall 13 (by decide))
          obtain rfl := f14.out (hall 14 (by decide))
          obtain rfl := f15.out (hall 15 (by decide))
          obtain rfl := f16.out (hall 16 (by decide))
          obtain rfl := f17.out (hall 17 (by decide))
          obtain rfl := f18.out (hall 18 (by decide))
          have g19 := f19.out (hall 19 (by decide))
          obtain rfl := f20.out (hall 20 (by decide))
          obtain rfl := f21.out (hall 21 (by decide))
          have g22 := f22.out (hall 22 (by decide))
          obtain rfl := f23.out (hall 23 (by decide))
          obtain rfl := f24.out (hall 24 (by decide))
          obtain rfl := f25.out (hall 25 (by decide))
          obtain rfl := f26.out (hall 26 (by decide))
          obtain rfl := f27.out (hall 27 (by decide))
          obtain rfl := f28.out (hall 28 (by decide))
          obtain rfl := f29.out (hall 29 (by decide))
          obtain rfl := f30.out (hall 30 (by decide))
          obtain rfl := f31.out (hall 31 (by decide))
          obtain rfl := f32.out (hall 32 (by decide))
          obtain rfl := f33.out (hall 33 (by decide))
          obtain rfl := f34.out (hall 34 (by decide))
          obtain rfl := f35.out (hall 35 (by decide))
          have hal := hide hall
          clear hall f0 f1 f2 f3 f4 f5 f6 f7 f8 f9 f10 f11 f12 f13 f14 f15 f16 f17 f18 f19 f20 f21 f22 f23 f24 f25 f26 f27 f28 f29 f30 f31 f32 f33 f34 f35
          try simp only [puts, Act.put, List.setIfInBounds_toArray, List.set_cons_zero, List.set_cons_succ]
          obtain ⟨W9, rfl⟩ : ∃ W', W' = W := ⟨_, rfl⟩
          have hb69 := below2 hb56 hG
          have HB69 := hide hb69
          have hbw9 := below2 hbj hb69
          have s2 := (HS7.out.later hbw9).cell 2 rfl
          have hA := HA7.out.later hbw9
          replace m0 := hA.cell 0 rfl
          replace m1 := hA.cell 1 rfl
          replace m2 := hA.cell 2 rfl
          clear g19 g22 hG hb5 hb6 hb56 hb69 hA
          go_wp2_with fail
          have e1 : IntKind.i64.wrap (G + P) = G + P := IntWalk.i64_in _ ⟨by omega, by omega⟩
          have e2 : IntKind.i64.wrap (G + P - 3) = G + P - 3 := IntWalk.i64_in _ ⟨by omega, by omega⟩
          refine wp_region_inv [some 119, some 120, some 121, some 122, some 123, some 124, some 125, some 126, some 127, some 128, some 129, some 130] (fun L vs W => match vs with | [x0, x1, x2, x3, x4, x5, x6, x7, x8, x9, x10, x11] => (Below W9.heap.size W9 W) ∧ (L 0 = true → x0 = .int .i64 m) ∧ (L 1 = true → x1 = .pointer (some ⟨w4.heap.size, 2, none⟩)) ∧ (L 2 = true → x2 = .int .i64 G) ∧ (L 3 = true → x3 = .pointer (some ⟨w4.heap.size, 2, none⟩)) ∧ (L 4 = true → x4 = .int .i64 G) ∧ (L 5 = true → x5 = .int .i64 m) ∧ (L 6 = true → x6 = .int .i64 P) ∧ (L 7 = true → x7 = .int .i64 (G + P)) ∧ (L 8 = true → x8 = .int .i64 (G + P - 3)) ∧ (L 9 = true → ∃ b : Nat, x9 = .slice (some ⟨b, 0, none⟩) 3 3 ∧ Blk W b [.int .i64 m, .int .i64 G, .int .i64 (G + P - 3)] 3) ∧ (L 10 = true → x10 = .int .i64 3) ∧ (L 11 = true → x11 = .int .i64 0) | _ => False) [_, _, _, _, _, _, _, _, _, _, _, _] (by kernel_rfl) (by kernel_rfl) rfl (by simp only [puts, Act.put, List.setIfInBounds_toArray, List.set_cons_zero, List.set_cons_succ] <;> rfl) ?_ ?_ ?_
          · exact ⟨(Below.refl _ _).drew, (fun h => by cases h), (fun h => by cases h), (fun h => by cases h), (fun h => by cases h), (fun h => by cases h), (fun h => by cases h), (fun h => by cases h), (fun h => by cases h), (fun h => by cases h), (fun h => by cases h), (fun h => by cases h), (fun h => by cases h)⟩
          · refine ⟨?_, ?_, ?_, ?_, ?_, ?_, ?_, ?_, ?_, ?_, ?_, ?_, trivial⟩
            · intro L vs W hlen hL hD hI K hK
              obtain ⟨x0, x1, x2, x3, x4, x5, x6, x7, x8, x9, x10, x11, rfl⟩ := len12 hlen
              have hG := hI.1
              replace hI := hI.2
              have f0 := hide hI.1
              replace hI := hI.2
              have f1 := hide hI.1
              replace hI := hI.2
              have f2 := hide hI.1
              replace hI := hI.2
              have f3 := hide hI.1
              replace hI := hI.2
              have f4 := hide hI.1
              replace hI := hI.2
              have f5 := hide hI.1
              replace hI := hI.2
              have f6 := hide hI.1
              replace hI := hI.2
              have f7 := hide hI.1
              replace hI := hI.2
              have f8 := hide hI.1
              replace hI := hI.2
              have f9 := hide hI.1
              replace hI := hI.2
              have f10 := hide hI.1
              replace hI := hI.2
              have f11 := hide hI
              clear hI
              have s2 := keep hG s2
              try simp only [puts, Act.put, List.setIfInBounds_toArray, List.set_cons_zero, List.set_cons_succ]
              try go_simp
              exact hK.out _ _ _ (by simp only [puts, Act.put, List.setIfInBounds_toArray, List.set_cons_zero, List.set_cons_succ] <;> rfl) ⟨hG, (fun _ => rfl), (fun h => f1.out h), (fun h => f2.out h), (fun h => f3.out h), (fun h => f4.out h), (fun h => f5.out h), (fun h => f6.out h), (fun h => f7.out h), (fun h => f8.out h), (fun h => f9.out h), (fun h => f10.out h), (fun h => f11.out h)⟩
            · intro L vs W hlen hL hD hI K hK
              obtain ⟨x0, x1, x2, x3, x4, x5, x6, x7, x8, x9, x10, x11, rfl⟩ := len12 hlen
              have hG := hI.1
              replace hI := hI.2
              have f0 := hide hI.1
              replace hI := hI.2
              have f1 := hide hI.1
              replace hI := hI.2
              have f2 := hide hI.1
              replace hI := hI.2
              have f3 := hide hI.1
              replace hI := hI.2
              have f4 := hide hI.1
              replace hI := hI.2
              have f5 := hide hI.1
              replace hI := hI.2
              have f6 := hide hI.1
              replace hI := hI.2
              have f7 := hide hI.1
              replace hI := hI.2
              have f8 := hide hI.1
              replace hI := hI.2
              have f9 := hide hI.1
              replace hI := hI.2
              have f10 := hide hI.1
              replace hI := hI.2
              have f11 := hide hI
              clear hI
              have s2 := keep hG s2
              try simp only [puts, Act.put, List.setIfInBounds_toArray, List.set_cons_zero, List.set_cons_succ]
              try go_simp
              exact hK.out _ _ _ (by simp only [puts, Act.put, List.setIfInBounds_toArray, List.set_cons_zero, List.set_cons_succ] <;> rfl) ⟨hG, (fun h => f0.out h), (fun _ => rfl), (fun h => f2.out h), (fun h => f3.out h), (fun h => f4.out h), (fun h => f5.out h), (fun h => f6.out h), (fun h => f7.out h), (fun h => f8.out h), (fun h => f9.out h), (fun h => f10.out h), (fun h => f11.out h)⟩
            · intro L vs W hlen hL hD hI K hK
              obtain ⟨x0, x1, x2, x3, x4, x5, x6, x7, x8, x9, x10, x11, rfl⟩ := len12 hlen
              have hG := hI.1
              replace hI := hI.2
              have f0 := hide hI.1
              replace hI := hI.2
              have f1 := hide hI.1
              replace hI := hI.2
              have f2 := hide hI.1
              replace hI := hI.2
              have f3 := hide hI.1
              replace hI := hI.2
              have f4 := hide hI.1
              replace hI := hI.2
              have f5 := hide hI.1
              replace hI := hI.2
              have f6 := hide hI.1
              replace hI := hI.2
              have f7 := hide hI.1
              replace hI := hI.2
              have f8 := hide hI.1
              replace hI := hI.2
              have f9 := hide hI.1
              replace hI := hI.2
              have f10 := hide hI.1
              replace hI := hI.2
              have f11 := hide hI
              clear hI
              have s2 := keep hG s2
              obtain rfl := f1.out (hD.on 1 (by kernel_rfl))
              try simp only [puts, Act.put, List.setIfInBounds_toArray, List.set_cons_zero, List.set_cons_succ]
              try go_simp
              exact hK.out _ _ _ (by simp only [puts, Act.put, List.setIfInBounds_toArray, List.set_cons_zero, List.set_cons_succ] <;> rfl) ⟨hG, (fun h => f0.out h), (fun h => f1.out h), (fun _ => rfl), (fun h => f3.out h), (fun h => f4.out h), (fun h => f5.out h), (fun h => f6.out h), (fun h => f7.out h), (fun h => f8.out h), (fun h => f9.out h), (fun h => f10.out h), (fun h => f11.out h)⟩
            · intro L vs W hlen hL hD hI K hK
              obtain ⟨x0, x1, x2, x3, x4, x5, x6, x7, x8, x9, x10, x11, rfl⟩ := len12 hlen
              have hG := hI.1
              replace hI := hI.2
              have f0 := hide hI.1
              replace hI := hI.2
              have f1 := hide hI.1
              replace hI := hI.2
              have f2 := hide hI.1
              replace hI := hI.2
              have f3 := hide hI.1
              replace hI := hI.2
              have f4 := hide hI.1
              replace hI := hI.2
              have f5 := hide hI.1
              replace hI := hI.2
              have f6 := hide hI.1
              replace hI := hI.2
              have f7 := hide hI.1
              replace hI := hI.2
              have f8 := hide hI.1
              replace hI := hI.2
              have f9 := hide hI.1
              replace hI := hI.2
              have f10 := hide hI.1
              replace hI := hI.2
              have f11 := hide hI
              clear hI
              have s2 := keep hG s2
              try simp only [puts, Act.put, List.setIfInBounds_toArray, List.set_cons_zero, List.set_cons_succ]
              try go_simp
              exact hK.out _ _ _ (by simp only [puts, Act.put, List.setIfInBounds_toArray, List.set_cons_zero, List.set_cons_succ] <;> rfl) ⟨hG, (fun h => f0.out h), (fun h => f1.out h), (fun h => f2.out h), (fun _ => rfl), (fun h => f4.out h), (fun h => f5.out h), (fun h => f6.out h), (fun h => f7.out h), (fun h => f8.out h), (fun h => f9.out h), (fun h => f10.out h), (fun h => f11.out h)⟩
            · intro L vs W hlen hL hD hI K hK
              obtain ⟨x0, x1, x2, x3, x4, x5, x6, x7, x8, x9, x10, x11, rfl⟩ := len12 hlen
              have hG := hI.1
              replace hI := hI.2
              have f0 := hide hI.1
              replace hI := hI.2
              have f1 := hide hI.1
              replace hI := hI.2
              have f2 := hide hI.1
              replace hI := hI.2
              have f3 := hide hI.1
              replace hI := hI.2
              have f4 := hide hI.1
              replace hI := hI.2
              have f5 := hide hI.1
              replace hI := hI.2
              have f6 := hide hI.1
              replace hI := hI.2
              have f7 := hide hI.1
              replace hI := hI.2
              have f8 := hide hI.1
              replace hI := hI.2
              have f9 := hide hI.1
              replace hI := hI.2
              have f10 := hide hI.1
              replace hI := hI.2
              have f11 := hide hI
              clear hI
              have s2 := keep hG s2
              obtain rfl := f3.out (hD.on 3 (by kernel_rfl))
              try simp only [puts, Act.put, List.setIfInBounds_toArray, List.set_cons_zero, List.set_cons_succ]
              try go_simp
              exact hK.out _ _ _ (by simp only [puts, Act.put, List.setIfInBounds_toArray, List.set_cons_zero, List.set_cons_succ] <;> rfl) ⟨hG, (fun h => f0.out h), (fun h => f1.out h), (fun h => f2.out h), (fun h => f3.out h), (fun _ => rfl), (fun h => f5.out h), (fun h => f6.out h), (fun h => f7.out h), (fun h => f8.out h), (fun h => f9.out h), (fun h => f10.out h), (fun h => f11.out h)⟩
            · intro L vs W hlen hL hD hI K hK
              obtain ⟨x0, x1, x2, x3, x4, x5, x6, x7, x8, x9, x10, x11, rfl⟩ := len12 hlen
              have hG := hI.1
              replace hI := hI.2
              have f0 := hide hI.1
              replace hI := hI.2
              have f1 := hide hI.1
              replace hI := hI.2
              have f2 := hide hI.1
              replace hI := hI.2
              have f3 := hide hI.1
              replace hI := hI.2
              have f4 := hide hI.1
              replace hI := hI.2
              have f5 := hide hI.1
              replace hI := hI.2
              have f6 := hide hI.1
              replace hI := hI.2
              have f7 := hide hI.1
              replace hI := hI.2
              have f8 := hide hI.1
              replace hI := hI.2
              have f9 := hide hI.1
              replace hI := hI.2
              have f10 := hide hI.1
              replace hI := hI.2
              have f11 := hide hI
              clear hI
              have s2 := keep hG s2
              try simp only [puts, Act.put, List.setIfInBounds_toArray, List.set_cons_zero, List.set_cons_succ]
              try go_simp
              exact hK.out _ _ _ (by simp only [puts, Act.put, List.setIfInBounds_toArray, List.set_cons_zero, List.set_cons_succ] <;> rfl) ⟨hG, (fun h => f0.out h), (fun h => f1.out h), (fun h => f2.out h), (fun h => f3.out h), (fun h => f4.out h), (fun _ => rfl), (fun h => f6.out h), (fun h => f7.out h), (fun h => f8.out h), (fun h => f9.out h), (fun h => f10.out h), (fun h => f11.out h)⟩
            · intro L vs W hlen hL hD hI K hK
              obtain ⟨x0, x1, x2, x3, x4, x5, x6, x7, x8, x9, x10, x11, rfl⟩ := len12 hlen
              have hG := hI.1
              replace hI := hI.2
              have f0 := hide hI.1
              replace hI := hI.2
              have f1 := hide hI.1
              replace hI := hI.2
              have f2 := hide hI.1
              replace hI := hI.2
              have f3 := hide hI.1
              replace hI := hI.2
              have f4 := hide hI.1
              replace hI := hI.2
              have f5 := hide hI.1
              replace hI := hI.2
              have f6 := hide hI.1
              replace hI := hI.2
              have f7 := hide hI.1
              replace hI := hI.2
              have f8 := hide hI.1
              replace hI := hI.2
              have f9 := hide hI.1
              replace hI := hI.2
              have f10 := hide hI.1
              replace hI := hI.2
              have f11 := hide hI
              clear hI
              have s2 := keep hG s2
              obtain rfl := f5.out (hD.on 5 (by kernel_rfl))
              try simp only [puts, Act.put, List.setIfInBounds_toArray, List.set_cons_zero, List.set_cons_succ]
              try go_simp
              refine (HPK.out _).mono ?_
              rintro e W' ⟨rfl, rfl⟩
              try go_simp
              exact hK.out _ _ _ (by simp only [puts, Act.put, List.setIfInBounds_toArray, List.set_cons_zero, List.set_cons_succ] <;> rfl) ⟨hG, (fun h => f0.out h), (fun h => f1.out h), (fun h => f2.out h), (fun h => f3.out h), (fun h => f4.out h), (fun h => f5.out h), (fun _ => rfl), (fun h => f7.out h), (fun h => f8.out h), (fun h => f9.out h), (fun h => f10.out h), (fun h => f11.out h)⟩
            · intro L vs W hlen hL hD hI K hK
              obtain ⟨x0, x1, x2, x3, x4, x5, x6, x7, x8, x9, x10, x11, rfl⟩ := len12 hlen
              have hG := hI.1
              replace hI := hI.2
              have f0 := hide hI.1
              replace hI := hI.2
              have f1 := hide hI.1
              replace hI := hI.2
              have f2 := hide hI.1
              replace hI := hI.2
              have f3 := hide hI.1
              replace hI := hI.2
              have f4 := hide hI.1
              replace hI := hI.2
              have f5 := hide hI.1
              replace hI := hI.2
              have f6 := hide hI.1
              replace hI := hI.2
              have f7 := hide hI.1
              replace hI := hI.2
              have f8 := hide hI.1
              replace hI := hI.2
              have f9 := hide hI.1
              replace hI := hI.2
              have f10 := hide hI.1
              replace hI := hI.2
              have f11 := hide hI
              clear hI
              have s2 := keep hG s2
              obtain rfl := f4.out (hD.on 4 (by kernel_rfl))
              obtain rfl := f6.out (hD.on 6 (by kernel_rfl))
              try simp only [puts, Act.put, List.setIfInBounds_toArray, List.set_cons_zero, List.set_cons_succ]
              try go_simp
              exact hK.out _ _ _ (by simp only [puts, Act.put, List.setIfInBounds_toArray, List.set_cons_zero, List.set_cons_succ] <;> rfl) ⟨hG, (fun h => f0.out h), (fun h => f1.out h), (fun h => f2.out h), (fun h => f3.out h), (fun h => f4.out h), (fun h => f5.out h), (fun h => f6.out h), (fun _ => rfl), (fun h => f8.out h), (fun h => f9.out h), (fun h => f10.out h), (fun h => f11.out h)⟩
            · intro L vs W hlen hL hD hI K hK
              obtain ⟨x0, x1, x2, x3, x4, x5, x6, x7, x8, x9, x10, x11, rfl⟩ := len12 hlen
              have hG := hI.1
              replace hI := hI.2
              have f0 := hide hI.1
              replace hI := hI.2
              have f1 := hide hI.1
              replace hI := hI.2
              have f2 := hide hI.1
              replace hI := hI.2
              have f3 := hide hI.1
              replace hI := hI.2
              have f4 := hide hI.1
              replace hI := hI.2
              have f5 := hide hI.1
              replace hI := hI.2
              have f6 := hide hI.1
              replace hI := hI.2
              have f7 := hide hI.1
              replace hI := hI.2
              have f8 := hide hI.1
              replace hI := hI.2
              have f9 := hide hI.1
              replace hI := hI.2
              have f10 := hide hI.1
              replace hI := hI.2
              have f11 := hide hI
              clear hI
              have s2 := keep hG s2
              obtain rfl := f7.out (hD.on 7 (by kernel_rfl))
              try simp only [puts, Act.put, List.setIfInBounds_toArray, List.set_cons_zero, List.set_cons_succ]
              try go_simp
              exact hK.out _ _ _ (by simp only [puts, Act.put, List.setIfInBounds_toArray, List.set_cons_zero, List.set_cons_succ] <;> rfl) ⟨hG, (fun h => f0.out h), (fun h => f1.out h), (fun h => f2.out h), (fun h => f3.out h), (fun h => f4.out h), (fun h => f5.out h), (fun h => f6.out h), (fun h => f7.out h), (fun _ => rfl), (fun h => f9.out h), (fun h => f10.out h), (fun h => f11.out h)⟩
            · intro L vs W hlen hL hD hI K hK
              obtain ⟨x0, x1, x2, x3, x4, x5, x6, x7, x8, x9, x10, x11, rfl⟩ := len12 hlen
              have hG := hI.1
              replace hI := hI.2
              have f0 := hide hI.1
              replace hI := hI.2
              have f1 := hide hI.1
              replace hI := hI.2
              have f2 := hide hI.1
              replace hI := hI.2
              have f3 := hide hI.1
              replace hI := hI.2
              have f4 := hide hI.1
              replace hI := hI.2
              have f5 := hide hI.1
              replace hI := hI.2
              have f6 := hide hI.1
              replace hI := hI.2
              have f7 := hide hI.1
              replace hI := hI.2
              have f8 := hide hI.1
              replace hI := hI.2
              have f9 := hide hI.1
              replace hI := hI.2
              have f10 := hide hI.1
              replace hI := hI.2
              have f11 := hide hI
              clear hI
              have s2 := keep hG s2
              obtain rfl := f0.out (hD.on 0 (by kernel_rfl))
              obtain rfl := f2.out (hD.on 2 (by kernel_rfl))
              obtain rfl := f8.out (hD.on 8 (by kernel_rfl))
              try simp only [puts, Act.put, List.setIfInBounds_toArray, List.set_cons_zero, List.set_cons_succ]
              try go_simp
              generalize hW' : World.alloc W _ = W'
              have hb : Below W.heap.size W W' := by rw [← hW']; exact bal W _
              exact hK.out _ _ _ (by simp only [puts, Act.put, List.setIfInBounds_toArray, List.set_cons_zero, List.set_cons_succ] <;> rfl) ⟨below2 hG hb, (fun h => f0.out h), (fun h => f1.out h), (fun h => f2.out h), (fun h => f3.out h), (fun h => f4.out h), (fun h => f5.out h), (fun h => f6.out h), (fun h => f7.out h), (fun h => f8.out h), (fun _ => ⟨W.heap.size, rfl, by rw [← hW'] ; exact Blk.newA W _ rfl⟩), (fun h => f10.out h), (fun h => f11.out h)⟩
            · intro L vs W hlen hL hD hI K hK
              obtain ⟨x0, x1, x2, x3, x4, x5, x6, x7, x8, x9, x10, x11, rfl⟩ := len12 hlen
              have hG := hI.1
              replace hI := hI.2
              have f0 := hide hI.1
              replace hI := hI.2
              have f1 := hide hI.1
              replace hI := hI.2
              have f2 := hide hI.1
              replace hI := hI.2
              have f3 := hide hI.1
              replace hI := hI.2
              have f4 := hide hI.1
              replace hI := hI.2
              have f5 := hide hI.1
              replace hI := hI.2
              have f6 := hide hI.1
              replace hI := hI.2
              have f7 := hide hI.1
              replace hI := hI.2
              have f8 := hide hI.1
              replace hI := hI.2
              have f9 := hide hI.1
              replace hI := hI.2
              have f10 := hide hI.1
              replace hI := hI.2
              have f11 := hide hI
              clear hI
              have s2 := keep hG s2
              have g9 := f9.out (hD.on 9 (by kernel_rfl))
              try simp only [puts, Act.put, List.setIfInBounds_toArray, List.set_cons_zero, List.set_cons_succ]
              obtain ⟨b, rfl, h9⟩ := g9
              go_simp
              exact hK.out _ _ _ (by simp only [puts, Act.put, List.setIfInBounds_toArray, List.set_cons_zero, List.set_cons_succ] <;> rfl) ⟨hG, (fun h => f0.out h), (fun h => f1.out h), (fun h => f2.out h), (fun h => f3.out h), (fun h => f4.out h), (fun h => f5.out h), (fun h => f6.out h), (fun h => f7.out h), (fun h => f8.out h), (fun h => f9.out h), (fun _ => rfl), (fun h => f11.out h)⟩
            · intro L vs W hlen hL hD hI K hK
              obtain ⟨x0, x1, x2, x3, x4, x5, x6, x7, x8, x9, x10, x11, rfl⟩ := len12 hlen
              have hG := hI.1
              replace hI := hI.2
              have f0 := hide hI.1
              replace hI := hI.2
              have f1 := hide hI.1
              replace hI := hI.2
              have f2 := hide hI.1
              replace hI := hI.2
              have f3 := hide hI.1
              replace hI := hI.2
              have f4 := hide hI.1
              replace hI := hI.2
              have f5 := hide hI.1
              replace hI := hI.2
              have f6 := hide hI.1
              replace hI := hI.2
              have f7 := hide hI.1
              replace hI := hI.2
              have f8 := hide hI.1
              replace hI := hI.2
              have f9 := hide hI.1
              replace hI := hI.2
              have f10 := hide hI.1
              replace hI := hI.2
              have f11 := hide hI
              clear hI
              have s2 := keep hG s2
              try simp only [puts, Act.put, List.setIfInBounds_toArray, List.set_cons_zero, List.set_cons_succ]
              try go_simp
              exact hK.out _ _ _ (by simp only [puts, Act.put, List.setIfInBounds_toArray, List.set_cons_zero, List.set_cons_succ] <;> rfl) ⟨hG, (fun h => f0.out h), (fun h => f1.out h), (fun h => f2.out h), (fun h => f3.out h), (fun h => f4.out h), (fun h => f5.out h), (fun h => f6.out h), (fun h => f7.out h), (fun h => f8.out h), (fun h => f9.out h), (fun h => f10.out h), (fun _ => rfl)⟩
          intro L vs W hlen hall hI
          obtain ⟨x0, x1, x2, x3, x4, x5, x6, x7, x8, x9, x10, x11, rfl⟩ := len12 hlen
          have hG := hI.1
          replace hI := hI.2
          have f0 := hide hI.1
          replace hI := hI.2
          have f1 := hide hI.1
          replace hI := hI.2
          have f2 := hide hI.1
          replace hI := hI.2
          have f3 := hide hI.1
          replace hI := hI.2
          have f4 := hide hI.1
          replace hI := hI.2
          have f5 := hide hI.1
          replace hI := hI.2
          have f6 := hide hI.1
          replace hI := hI.2
          have f7 := hide hI.1
          replace hI := hI.2
          have f8 := hide hI.1
          replace hI := hI.2
          have f9 := hide hI.1
          replace hI := hI.2
          have f10 := hide hI.1
          replace hI := hI.2
          have f11 := hide hI
          clear hI
          obtain rfl := f0.out (hall 0 (by decide))
          obtain rfl := f1.out (hall 1 (by decide))
          obtain rfl := f2.out (hall 2 (by decide))
          obtain rfl := f3.out (hall 3 (by decide))
          obtain rfl := f4.out (hall 4 (by decide))
          obtain rfl := f5.out (hall 5 (by decide))
          obtain rfl := f6.out (hall 6 (by decide))
          obtain rfl := f7.out (hall 7 (by decide))
          obtain rfl := f8.out (hall 8 (by decide))
          have g9 := f9.out (hall 9 (by decide))
          obtain rfl := f10.out (hall 10 (by decide))
          obtain rfl := f11.out (hall 11 (by decide))
          have hal := hide hall
          clear hall f0 f1 f2 f3 f4 f5 f6 f7 f8 f9 f10 f11
          try simp only [puts, Act.put, List.setIfInBounds_toArray, List.set_cons_zero, List.set_cons_succ]
          obtain ⟨b8, rfl, hB8⟩ := g9
          obtain ⟨W10, rfl⟩ : ∃ W', W' = W := ⟨_, rfl⟩
          have HMM : Hid (∀ c : Nat, c < 3 → ∃ mm : Int, W10.cell? ⟨b8, c, none⟩ = some (.int .i64 mm)) := hide (fun c hc => by
            match c, hc with
            | 0, _ => exact ⟨_, hB8.cell 0 rfl⟩
            | 1, _ => exact ⟨_, hB8.cell 1 rfl⟩
            | 2, _ => exact ⟨_, hB8.cell 2 rfl⟩)
          have HB610 := hide (below2 HB69.out hG)
          replace m0 := keep hG m0
          replace m1 := keep hG m1
          replace m2 := keep hG m2
          clear hB8 hG s2 e1 e2
          go_wp2_with fail
          go_loopw [130] (fun i wr => ∃ c : Nat, c ≤ 3 ∧ i = .int .i64 c ∧ Below W10.heap.size W10 wr) (fun i _ => 3 - (intOf i).toNat)
          case atStart => exact ⟨0, by omega, rfl, Below.refl _ _⟩
          case round =>
            obtain ⟨c, hc3, rfl, hbc⟩ := hrel
            by_cases hcl : c < 3
            · have hcd : decide ((c : Int) < 3) = true := by simp; omega
              obtain ⟨mm, hmm⟩ := HMM.out c hcl
              replace hmm := keep hbc hmm
              have n0 := keep hbc m0
              have n1 := keep hbc m1
              have n2 := keep hbc m2
              obtain ⟨w11, rfl⟩ : ∃ z, z = wr := ⟨_, rfl⟩
              have hbb11 := below2 HB610.out hbc
              go_upto_region 22 with fail
              refine wp_region_inv [some 134, some 135, some 136, some 137, some 138, some 139, some 140, some 141, some 142] (fun L vs W => match vs with | [x0, x1, x2, x3, x4, x5, x6, x7, x8] => (Below w11.heap.size w11 W) ∧ (L 0 = true → x0 = .agg #[.int .i64 q.vars, .slice qa1 q.rows.length qc1, .slice ha1 q.gain.length hc1]) ∧ (L 1 = true → x1 = .slice va Lt.length vn) ∧ (L 2 = true → x2 = .int .i64 mm) ∧ (L 3 = true → x3 = .bool (BF mm)) ∧ (L 4 = true → x4 = .agg #[.int .i64 q.vars, .slice qa1 q.rows.length qc1, .slice ha1 q.gain.length hc1]) ∧ (L 5 = true → x5 = .slice va Lt.length vn) ∧ (L 6 = true → x6 = .int .i64 mm) ∧ (L 7 = true → x7 = .bool (BF mm)) ∧ (L 8 = true → x8 = .bool false) | _ => False) [_, _, _, _, _, _, _, _, _] (by kernel_rfl) (by kernel_rfl) rfl (by simp only [puts, Act.put, List.setIfInBounds_toArray, List.set_cons_zero, List.set_cons_succ] <;> rfl) ?_ ?_ ?_
              · exact ⟨(Below.refl _ _).drew, (fun h => by cases h), (fun h => by cases h), (fun h => by cases h), (fun h => by cases h), (fun h => by cases h), (fun h => by cases h), (fun h => by cases h), (fun h => by cases h), (fun h => by cases h)⟩
              · refine ⟨?_, ?_, ?_, ?_, ?_, ?_, ?_, ?_, ?_, trivial⟩
                · intro L vs W hlen hL hD hI K hK
                  obtain ⟨x0, x1, x2, x3, x4, x5, x6, x7, x8, rfl⟩ := len9 hlen
                  have hG := hI.1
                  replace hI := hI.2
                  have f0 := hide hI.1
                  replace hI := hI.2
                  have f1 := hide hI.1
                  replace hI := hI.2
                  have f2 := hide hI.1
                  replace hI := hI.2
                  have f3 := hide hI.1
                  replace hI := hI.2
                  have f4 := hide hI.1
                  replace hI := hI.2
                  have f5 := hide hI.1
                  replace hI := hI.2
                  have f6 := hide hI.1
                  replace hI := hI.2
                  have f7 := hide hI.1
                  replace hI := hI.2
                  have f8 := hide hI
                  clear hI
                  have n0 := keep hG n0
                  have n1 := keep hG n1
                  have n2 := keep hG n2
                  try simp only [puts, Act.put, List.setIfInBounds_toArray, List.set_cons_zero, List.set_cons_succ]
                  try go_simp
                  exact hK.out _ _ _ (by simp only [puts, Act.put, List.setIfInBounds_toArray, List.set_cons_zero, List.set_cons_succ] <;> rfl) ⟨hG, (fun _ => rfl), (fun h => f1.out h), (fun h => f2.out h), (fun h => f3.out h), (fun h => f4.out h), (fun h => f5.out h), (fun h => f6.out h), (fun h => f7.out h), (fun h => f8.out h)⟩
                · intro L vs W hlen hL hD hI K hK
                  obtain ⟨x0, x1, x2, x3, x4, x5, x6, x7, x8, rfl⟩ := len9 hlen
                  have hG := hI.1
                  replace hI := hI.2
                  have f0 := hide hI.1
                  replace hI := hI.2
                  have f1 := hide hI.1
                  replace hI := hI.2
                  have f2 := hide hI.1
                  replace hI := hI.2
                  have f3 := hide hI.1
                  replace hI := hI.2
                  have f4 := hide hI.1
                  replace hI := hI.2
                  have f5 := hide hI.1
                  replace hI := hI.2
                  have f6 := hide hI.1
                  replace hI := hI.2
                  have f7 := hide hI.1
                  replace hI := hI.2
                  have f8 := hide hI
                  clear hI
                  have n0 := keep hG n0
                  have n1 := keep hG n1
                  have n2 := keep hG n2
                  try simp only [puts, Act.put, List.setIfInBounds_toArray, List.set_cons_zero, List.set_cons_succ]
                  try go_simp
                  exact hK.out _ _ _ (by simp only [puts, Act.put, List.setIfInBounds_toArray, List.set_cons_zero, List.set_cons_succ] <;> rfl) ⟨hG, (fun h => f0.out h), (fun _ => rfl), (fun h => f2.out h), (fun h => f3.out h), (fun h => f4.out h), (fun h => f5.out h), (fun h => f6.out h), (fun h => f7.out h), (fun h => f8.out h)⟩
                · intro L vs W hlen hL hD hI K hK
                  obtain ⟨x0, x1, x2, x3, x4, x5, x6, x7, x8, rfl⟩ := len9 hlen
                  have hG := hI.1
                  replace hI := hI.2
                  have f0 := hide hI.1
                  replace hI := hI.2
                  have f1 := hide hI.1
                  replace hI := hI.2
                  have f2 := hide hI.1
                  replace hI := hI.2
                  have f3 := hide hI.1
                  replace hI := hI.2
                  have f4 := hide hI.1
                  replace hI := hI.2
                  have f5 := hide hI.1
                  replace hI := hI.2
                  have f6 := hide hI.1
                  replace hI := hI.2
                  have f7 := hide hI.1
                  replace hI := hI.2
                  have f8 := hide hI
                  clear hI
                  have n0 := keep hG n0
                  have n1 := keep hG n1
                  have n2 := keep hG n2
                  try simp only [puts, Act.put, List.setIfInBounds_toArray, List.set_cons_zero, List.set_cons_succ]
                  try go_simp
                  exact hK.out _ _ _ (by simp only [puts, Act.put, List.setIfInBounds_toArray, List.set_cons_zero, List.set_cons_succ] <;> rfl) ⟨hG, (fun h => f0.out h), (fun h => f1.out h), (fun _ => rfl), (fun h => f3.out h), (fun h => f4.out h), (fun h => f5.out h), (fun h => f6.out h), (fun h => f7.out h), (fun h => f8.out h)⟩
                · intro L vs W hlen hL hD hI K hK
                  obtain ⟨x0, x1, x2, x3, x4, x5, x6, x7, x8, rfl⟩ := len9 hlen
                  have hG := hI.1
                  replace hI := hI.2
                  have f0 := hide hI.1
                  replace hI := hI.2
                  have f1 := hide hI.1
                  replace hI := hI.2
                  have f2 := hide hI.1
                  replace hI := hI.2
                  have f3 := hide hI.1
                  replace hI := hI.2
                  have f4 := hide hI.1
                  replace hI := hI.2
                  have f5 := hide hI.1
                  replace hI := hI.2
                  have f6 := hide hI.1
                  replace hI := hI.2
                  have f7 := hide hI.1
                  replace hI := hI.2
                  have f8 := hide hI
                  clear hI
                  have n0 := keep hG n0
                  have n1 := keep hG n1
                  have n2 := keep hG n2
                  obtain rfl := f0.out (hD.on 0 (by kernel_rfl))
                  obtain rfl := f1.out (hD.on 1 (by kernel_rfl))
                  obtain rfl := f2.out (hD.on 2 (by kernel_rfl))
                  try simp only [puts, Act.put, List.setIfInBounds_toArray, List.set_cons_zero, List.set_cons_succ]
                  try go_simp
                  refine (HB1'.out _ mm (below2 hbb11 hG)).mono ?_
                  rintro e W' ⟨rfl, hb⟩
                  try go_simp
                  exact hK.out _ _ _ (by simp only [puts, Act.put, List.setIfInBounds_toArray, List.set_cons_zero, List.set_cons_succ] <;> rfl) ⟨below2 hG hb, (fun h => f0.out h), (fun h => f1.out h), (fun h => f2.out h), (fun _ => rfl), (fun h => f4.out h), (fun h => f5.out h), (fun h => f6.out h), (fun h => f7.out h), (fun h => f8.out h)⟩
                · intro L vs W hlen hL hD hI K hK
                  obtain ⟨x0, x1, x2, x3, x4, x5, x6, x7, x8, rfl⟩ := len9 hlen
                  have hG := hI.1
                  replace hI := hI.2
                  have f0 := hide hI.1
                  replace hI := hI.2
                  have f1 := hide hI.1
                  replace hI := hI.2
                  have f2 := hide hI.1
                  replace hI := hI.2
                  have f3 := hide hI.1
                  replace hI := hI.2
                  have f4 := hide hI.1
                  replace hI := hI.2
                  have f5 := hide hI.1
                  replace hI := hI.2
                  have f6 := hide hI.1
                  replace hI := hI.2
                  have f7 := hide hI.1
                  replace hI := hI.2
                  have f8 := hide hI
                  clear hI
                  have n0 := keep hG n0
                  have n1 := keep hG n1
                  have n2 := keep hG n2
                  try simp only [puts, Act.put, List.setIfInBounds_toArray, List.set_cons_zero, List.set_cons_succ]
                  try go_simp
                  exact hK.out _ _ _ (by simp only [puts, Act.put, List.setIfInBounds_toArray, List.set_cons_zero, List.set_cons_succ] <;> rfl) ⟨hG, (fun h => f0.out h), (fun h => f1.out h), (fun h => f2.out h), (fun h => f3.out h), (fun _ => rfl), (fun h => f5.out h), (fun h => f6.out h), (fun h => f7.out h), (fun h => f8.out h)⟩
                · intro L vs W hlen hL hD hI K hK
                  obtain ⟨x0, x1, x2, x3, x4, x5, x6, x7, x8, rfl⟩ := len9 hlen
                  have hG := hI.1
                  replace hI := hI.2
                  have f0 := hide hI.1
                  replace hI := hI.2
                  have f1 := hide hI.1
                  replace hI := hI.2
                  have f2 := hide hI.1
                  replace hI := hI.2
                  have f3 := hide hI.1
                  replace hI := hI.2
                  have f4 := hide hI.1
                  replace hI := hI.2
                  have f5 := hide hI.1
                  replace hI := hI.2
                  have f6 := hide hI.1
                  replace hI := hI.2
                  have f7 := hide hI.1
                  replace hI := hI.2
                  have f8 := hide hI
                  clear hI
                  have n0 := keep hG n0
                  have n1 := keep hG n1
                  have n2 := keep hG n2
                  try simp only [puts, Act.put, List.setIfInBounds_toArray, List.set_cons_zero, List.set_cons_succ]
                  try go_simp
                  exact hK.out _ _ _ (by simp only [puts, Act.put, List.setIfInBounds_toArray, List.set_cons_zero, List.set_cons_succ] <;> rfl) ⟨hG, (fun h => f0.out h), (fun h => f1.out h), (fun h => f2.out h), (fun h => f3.out h), (fun h => f4.out h), (fun _ => rfl), (fun h => f6.out h), (fun h => f7.out h), (fun h => f8.out h)⟩
                · intro L vs W hlen hL hD hI K hK
                  obtain ⟨x0, x1, x2, x3, x4, x5, x6, x7, x8, rfl⟩ := len9 hlen
                  have hG := hI.1
                  replace hI := hI.2
                  have f0 := hide hI.1
                  replace hI := hI.2
                  have f1 := hide hI.1
                  replace hI := hI.2
                  have f2 := hide hI.1
                  replace hI := hI.2
                  have f3 := hide hI.1
                  replace hI := hI.2
                  have f4 := hide hI.1
                  replace hI := hI.2
                  have f5 := hide hI.1
                  replace hI := hI.2
                  have f6 := hide hI.1
                  replace hI := hI.2
                  have f7 := hide hI.1
                  replace hI := hI.2
                  have f8 := hide hI
                  clear hI
                  have n0 := keep hG n0
                  have n1 := keep hG n1
                  have n2 := keep hG n2
                  try simp only [puts, Act.put, List.setIfInBounds_toArray, List.set_cons_zero, List.set_cons_succ]
                  try go_simp
                  exact hK.out _ _ _ (by simp only [puts, Act.put, List.setIfInBounds_toArray, List.set_cons_zero, List.set_cons_succ] <;> rfl) ⟨hG, (fun h => f0.out h), (fun h => f1.out h), (fun h => f2.out h), (fun h => f3.out h), (fun h => f4.out h), (fun h => f5.out h), (fun _ => rfl), (fun h => f7.out h), (fun h => f8.out h)⟩
                · intro L vs W hlen hL hD hI K hK
                  obtain ⟨x0, x1, x2, x3, x4, x5, x6, x7, x8, rfl⟩ := len9 hlen
                  have hG := hI.1
                  replace hI := hI.2
                  have f0 := hide hI.1
                  replace hI := hI.2
                  have f1 := hide hI.1
                  replace hI := hI.2
                  have f2 := hide hI.1
                  replace hI := hI.2
                  have f3 := hide hI.1
                  replace hI := hI.2
                  have f4 := hide hI.1
                  replace hI := hI.2
                  have f5 := hide hI.1
                  replace hI := hI.2
                  have f6 := hide hI.1
                  replace hI := hI.2
                  have f7 := hide hI.1
                  replace hI := hI.2
                  have f8 := hide hI
                  clear hI
                  have n0 := keep hG n0
                  have n1 := keep hG n1
                  have n2 := keep hG n2
                  obtain rfl := f4.out (hD.on 4 (by kernel_rfl))
                  obtain rfl := f5.out (hD.on 5 (by kernel_rfl))
                  obtain rfl := f6.out (hD.on 6 (by kernel_rfl))
                  try simp only [puts, Act.put, List.setIfInBounds_toArray, List.set_cons_zero, List.set_cons_succ]
                  try go_simp
                  refine (HB2'.out _ mm (below2 hbb11 hG)).mono ?_
                  rintro e W' ⟨rfl, hb⟩
                  try go_simp
                  exact hK.out _ _ _ (by simp only [puts, Act.put, List.setIfInBounds_toArray, List.set_cons_zero, List.set_cons_succ] <;> rfl) ⟨below2 hG hb, (fun h => f0.out h), (fun h => f1.out h), (fun h => f2.out h), (fun h => f3.out h), (fun h => f4.out h), (fun h => f5.out h), (fun h => f6.out h), (fun _ => rfl), (fun h => f8.out h)⟩
                · intro L vs W hlen hL hD hI K hK
                  obtain ⟨x0, x1, x2, x3, x4, x5, x6, x7, x8, rfl⟩ := len9 hlen
                  have hG := hI.1
                  replace hI := hI.2
                  have f0 := hide hI.1
                  replace hI := hI.2
                  have f1 := hide hI.1
                  replace hI := hI.2
                  have f2 := hide hI.1
                  replace hI := hI.2
                  have f3 := hide hI.1
                  replace hI := hI.2
                  have f4 := hide hI.1
                  replace hI := hI.2
                  have f5 := hide hI.1
                  replace hI := hI.2
                  have f6 := hide hI.1
                  replace hI := hI.2
                  have f7 := hide hI.1
                  replace hI := hI.2
                  have f8 := hide hI
                  clear hI
                  have n0 := keep hG n0
                  have n1 := keep hG n1
                  have n2 := keep hG n2
                  obtain rfl := f3.out (hD.on 3 (by kernel_rfl))
                  obtain rfl := f7.out (hD.on 7 (by kernel_rfl))
                  try simp only [puts, Act.put, List.setIfInBounds_toArray, List.set_cons_zero, List.set_cons_succ]
                  try go_simp
                  exact hK.out _ _ _ (by simp only [puts, Act.put, List.setIfInBounds_toArray, List.set_cons_zero, List.set_cons_succ] <;> rfl) ⟨hG, (fun h => f0.out h), (fun h => f1.out h), (fun h => f2.out h), (fun h => f3.out h), (fun h => f4.out h), (fun h => f5.out h), (fun h => f6.out h), (fun h => f7.out h), (fun _ => rfl)⟩
              intro L vs W hlen hall hI
              obtain ⟨x0, x1, x2, x3, x4, x5, x6, x7, x8, rfl⟩ := len9 hlen
              have hG := hI.1
              replace hI := hI.2
              have f0 := hide hI.1
              replace hI := hI.2
              have f1 := hide hI.1
              replace hI := hI.2
              have f2 := hide hI.1
              replace hI := hI.2
              have f3 := hide hI.1
              replace hI := hI.2
              have f4 := hide hI.1
              replace hI := hI.2
              have f5 := hide hI.1
              replace hI := hI.2
              have f6 := hide hI.1
              replace hI := hI.2
              have f7 := hide hI.1
              replace hI := hI.2
              have f8 := hide hI
              clear hI
              obtain rfl := f0.out (hall 0 (by decide))
              obtain rfl := f1.out (hall 1 (by decide))
              obtain rfl := f2.out (hall 2 (by decide))
              obtain rfl := f3.out (hall 3 (by decide))
              obtain rfl := f4.out (hall 4 (by decide))
              obtain rfl := f5.out (hall 5 (by decide))
              obtain rfl := f6.out (hall 6 (by decide))
              obtain rfl := f7.out (hall 7 (by decide))
              obtain rfl := f8.out (hall 8 (by decide))
              have hal := hide hall
              clear hall f0 f1 f2 f3 f4 f5 f6 f7 f8
              try simp only [puts, Act.put, List.setIfInBounds_toArray, List.set_cons_zero, List.set_cons_succ]
              have hnx := below2 hbc hG
              clear n0 n1 n2 hmm
              go_wp2_with fail
              go_roundw
              case rel => exact ⟨c + 1, by omega, by go_num, hnx⟩
              case measure => simp [intOf]; omega
            · obtain rfl : c = 3 := by omega
              have hfin := below2 HBJ.out (below2 HB610.out hbc)
              go_wp2_with fail
              go_roundw
              case rel => exact ⟨j + 1, by omega, by go_num, hfin⟩
              case measure => simp [intOf]; omega
        · obtain rfl : j = 4 := by omega
          have hfin := below2 HB7.out hbj
          go_wp2_with fail
          go_roundw
          case rel => exact ⟨k + 1, by omega, by go_num, hfin⟩
          case measure => simp [intOf]; omega
    · obtain rfl : k = 2 := by omega
      go_wp2_with fail
      go_ret
      exact ⟨rfl, below2 HB1.out hbr⟩
end Go.Proofs.Ytppfdjjhloaopaa
