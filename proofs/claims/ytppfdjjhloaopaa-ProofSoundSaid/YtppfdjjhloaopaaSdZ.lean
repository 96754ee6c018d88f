/- ProofSound: for every input the law returns true. No condition. -/
import Derived.Test.YtppfdjjhloaopaaSdC
import Derived.Test.YtppfdjjhloaopaaSdB
import Derived.Test.YtppfdjjhloaopaaSdA
/- The walk of ProofSound. Conditions: how the arguments lie in memory; that integers are of 64 bits. -/
namespace Go.Proofs.Ytppfdjjhloaopaa
open Go.RowKit

theorem list4 {z : List Int} (h : z.length = 4) : ∃ a b c d, z = [a, b, c, d] := by
  match z, h with
  | [a, b, c, d], _ => exact ⟨_, _, _, _, rfl⟩
/-- a slice of four lists of steps -/
def FourAt (W : World) (v : Value) : Prop :=
  ∃ b : Nat, v = .slice (some ⟨b, 0, none⟩) 4 4 ∧ ∀ j : Nat, j < 4 → ∃ (ua : Option Addr) (un : Nat) (L : List StepD), W.cell? ⟨b, j, none⟩ = some (.slice ua L.length un) ∧ StepsIn W.cell? (.slice ua L.length un) L
theorem FourAt.below {W W' : World} {v : Value} (h : FourAt W v) (hb : Below W.heap.size W W') : FourAt W' v := by
  obtain ⟨b, e, h1⟩ := h
  refine ⟨b, e, fun j hj => ?_⟩
  obtain ⟨ua, un, L, h2, h3⟩ := h1 j hj
  exact ⟨ua, un, L, keep hb h2, h3.keeps (keeps_of_below hb)⟩
theorem FourAt.make {W : World} {b : Nat} {a0 a1 a2 a3 : Option Addr} {n0 n1 n2 n3 : Nat} {l0 l1 l2 l3 : List StepD} {t : TypeId} (hB : Blk W b [.slice a0 l0.length n0, .slice a1 l1.length n1, .slice a2 l2.length n2, .slice a3 l3.length n3] t)
    (h0 : StepsIn W.cell? (.slice a0 l0.length n0) l0) (h1 : StepsIn W.cell? (.slice a1 l1.length n1) l1) (h2 : StepsIn W.cell? (.slice a2 l2.length n2) l2) (h3 : StepsIn W.cell? (.slice a3 l3.length n3) l3) : FourAt W (.slice (some ⟨b, 0, none⟩) 4 4) :=
  ⟨b, rfl, fun j hj => by
    match j, hj with
    | 0, _ => exact ⟨_, _, _, hB.cell 0 rfl, h0⟩
    | 1, _ => exact ⟨_, _, _, hB.cell 1 rfl, h1⟩
    | 2, _ => exact ⟨_, _, _, hB.cell 2 rfl, h2⟩
    | 3, _ => exact ⟨_, _, _, hB.cell 3 rfl, h3⟩⟩
set_option maxRecDepth 100000 in
set_option maxHeartbeats 4000000 in
theorem sound_any (v : Int) (x : List Tri) (xv : Value) (y : List Tri) (yv : Value) (g : List Int) (z1 z2 : List Int) (l : List StepD) (lv : Value) (m : Int) (w : World) (hv : i64B v) (hx : TrisIn w.cell? xv x) (hx64 : ∀ t ∈ x, tri64 t)
    (hy : TrisIn w.cell? yv y) (hy64 : ∀ t ∈ y, tri64 t) (hg : g.length = 8) (hg64 : ∀ y ∈ g, i64B y) (hz1 : z1.length = 4) (hz164 : ∀ y ∈ z1, i64B y) (hz2 : z2.length = 4) (hz264 : ∀ y ∈ z2, i64B y) (hl : StepsIn w.cell? lv l) (hm : i64B m) :
    Calls Try.prog 5 #[.int .i64 v, xv, yv, .agg (g.map (Value.int .i64)).toArray, .agg ((z1 ++ z2).map (Value.int .i64)).toArray, lv, .int .i64 m] w (Ret (.bool true) w) := by
  have HM2 := hide (fun W (h : Below w.heap.size w W) => made_any v y yv g W hv (TrisIn.keeps (keeps_of_below h) hy) hy64 hg hg64)
  obtain ⟨ya, yn, rfl, hy1, hy2, -⟩ := id hy
  obtain ⟨la, ln, rfl, hl1, hl2, -⟩ := id hl
  obtain ⟨a0, a1, a2, a3, rfl⟩ := list4 hz1
  obtain ⟨b0, b1, b2, b3, rfl⟩ := list4 hz2
  have HZ1 := hide (fun (L : List StepD) (Lv : Value) (W : World) (hs : StepsIn W.cell? Lv L) (h1 : L.length ≤ 10000) (h2 : OkL 1 L) => bent_any 1 L Lv [a0, a1, a2, a3] W hs h1 (by omega) h2 rfl hz164)
  have HZ2 := hide (fun (L : List StepD) (Lv : Value) (W : World) (hs : StepsIn W.cell? Lv L) (h1 : L.length ≤ 10000) (h2 : OkL 2 L) => bent_any 2 L Lv [b0, b1, b2, b3] W hs h1 (by omega) h2 rfl hz264)
  have HL := hide hl
  obtain ⟨g0, g1, g2, g3, g4, g5, g6, g7, rfl⟩ : ∃ g0 g1 g2 g3 g4 g5 g6 g7, g = [g0, g1, g2, g3, g4, g5, g6, g7] := by
    match g, hg with
    | [a, b, c, d, e, f, g, h], _ => exact ⟨_, _, _, _, _, _, _, _, rfl⟩
  obtain ⟨xa, xn, rfl, hx1, hx2, -⟩ := id hx
  have HM := hide (fun W (h : Below w.heap.size w W) => made_any v x (.slice xa x.length xn) [g0, g1, g2, g3, g4, g5, g6, g7] W hv (TrisIn.keeps (keeps_of_below h) hx) hx64 hg hg64)
  clear hx hx64 hg hg64
  clear hy hy64 hz1 hz2 hz164 hz264 hl
  go_enter Try.func5, Try.ntmps5
  go_wp2_with fail
  generalize hX1 : World.alloc w _ = X1
  have zX1 : X1.heap.size = w.heap.size + 1 := by rw [← hX1]; simp
  have bX1 : Below w.heap.size w X1 := by rw [← hX1]; exact bal w _
  have bG_1 : Blk X1 (w.heap.size) [.int .i64 g0, .int .i64 g1, .int .i64 g2, .int .i64 g3, .int .i64 g4, .int .i64 g5, .int .i64 g6, .int .i64 g7] 23 := by rw [← hX1]; exact Blk.newA w _ (by first | rfl | simp)
  generalize hX2 : World.alloc X1 _ = X2
  have zX2 : X2.heap.size = w.heap.size + 1 + 1 := by rw [← hX2]; simp [zX1]
  have bX2 : Below X1.heap.size X1 X2 := by rw [← hX2]; exact bal X1 _
  have bZ : Blk X2 (w.heap.size + 1) [.int .i64 a0, .int .i64 a1, .int .i64 a2, .int .i64 a3, .int .i64 b0, .int .i64 b1, .int .i64 b2, .int .i64 b3] 29 := by rw [← hX2, ← zX1]; exact Blk.newA X1 _ (by first | rfl | simp)
  have bG := bG_1.later bX2
  have Xb := below2 (bX1) bX2
  have Xz := zX2
  clear hX1 zX1 bX1 hX2 zX2 bX2 bG_1
  have hb0 := Xb
  refine (sane34_any _).mono ?_
  rintro e w1 ⟨rfl, hb1⟩
  have bG1 := bG.later hb1
  have c0 := bG1.cell 0 rfl
  have c1 := bG1.cell 1 rfl
  have c2 := bG1.cell 2 rfl
  have c3 := bG1.cell 3 rfl
  have c4 := bG1.cell 4 rfl
  have c5 := bG1.cell 5 rfl
  have c6 := bG1.cell 6 rfl
  have c7 := bG1.cell 7 rfl
  go_wp2_with fail
  refine (HM.out _ (below2 hb0 hb1)).mono ?_
  rintro e w2 ⟨pv, rfl, hpv, hb2⟩
  have bG3 := bG1.later hb2
  clear c0 c1 c2 c3 c4 c5 c6 c7 HM bG1 bG
  obtain ⟨n, rows, gain, hmf, hn8, hr8, hV, hg31, hmy⟩ := made_form2 v x [g0, g1, g2, g3, g4, g5, g6, g7]
  rw [hmf] at hpv
  clear hmf
  obtain ⟨rv, gv, rfl, hr, hgn⟩ := hpv
  have hr2 : RowsAt w2 rv rows := hr.keeps (keeps_frm _ _)
  have hg2 : IntsAt w2 gv gain := hgn.keeps (keeps_frm _ _)
  obtain ⟨ra, rc, rfl, -, hrm, -⟩ := id hr2
  obtain ⟨ga, gc, rfl, -, hgm, -⟩ := id hg2
  have hbw2 := below2 (below2 hb0 hb1) hb2
  clear hr hgn hb0
  go_wp2_with fail
  generalize hW3 : World.alloc w2 _ = W3
  have bP : Blk W3 w2.heap.size [.int .i64 n, .slice ra rows.length rc, .slice ga gain.length gc] 27 := by rw [← hW3]; exact Blk.new w2 _ _
  have hb3 : Below w2.heap.size w2 W3 := by rw [← hW3]; exact bal w2 _
  have hr3 := hr2.below hb3
  have hg3 := hg2.below hb3
  have hbw3 := below2 hbw2 hb3
  have p0 := bP.cell 0 rfl
  have p1 := bP.cell 1 rfl
  have p2 := bP.cell 2 rfl
  replace bG3 := bG3.later hb3
  clear hW3 hr2 hg2 hbw2
  obtain ⟨rows2, hmf2, hr28, hV2⟩ := hmy y
  rw [hmf2] at HM2
  clear hmf2 hmy
  have bZ3 := ((bZ.later hb1).later hb2).later hb3
  refine (solver_any ⟨n, rows, gain⟩ _ _ _ hr3 hg3).mono ?_
  rintro e w4 ⟨sv, u, rfl, ⟨⟨pv, rfl, hpv⟩, rfl⟩, hb4⟩
  have hp4 : StepsIn w4.cell? pv (solveF ⟨n, rows, gain⟩).proof := hpv.keeps (keeps_frm _ _)
  rw [errF_in hV, solve_gain hV]
  have hok := proof_ok hV
  have hbd := best_bd hV
  generalize (solveF ⟨n, rows, gain⟩).proof = PL at *
  generalize (solveF ⟨n, rows, gain⟩).set = bs
  generalize (solveF ⟨n, rows, gain⟩).found = bf
  generalize (bestF ⟨n, rows, gain⟩).gain = bg at *
  obtain ⟨pa, pn, rfl, hp1, hp2, -⟩ := id hp4
  have bG4 := bG3.later hb4
  have c0 := bG4.cell 0 rfl
  have c1 := bG4.cell 1 rfl
  have c2 := bG4.cell 2 rfl
  have c3 := bG4.cell 3 rfl
  have c4 := bG4.cell 4 rfl
  have c5 := bG4.cell 5 rfl
  have c6 := bG4.cell 6 rfl
  have c7 := bG4.cell 7 rfl
  have lP := bP.lt
  go_upto_region 6 with (fail)
  generalize hS1 : World.alloc w4 _ = S1
  have zS1 : S1.heap.size = w4.heap.size + 1 := by rw [← hS1]; simp
  have bS1 : Below w4.heap.size w4 S1 := by rw [← hS1]; exact bal w4 _
  have bS : Blk S1 (w4.heap.size) [.bool bf, .int .i64 bs, .int .i64 bg, .slice pa PL.length pn] 34 := by rw [← hS1]; exact Blk.newA w4 _ (by first | rfl | simp)
  have Sb := bS1
  have Sz := zS1
  clear hS1 zS1 bS1
  have bG5 := bG4.later Sb
  have hbw5 := below2 (below2 hbw3 hb4) Sb
  have hb35 := below2 hb4 Sb
  replace hp4 := hp4.keeps (keeps_of_below Sb)
  clear c0 c1 c2 c3 c4 c5 c6 c7 bG4 bG3
  have c0 := bG5.cell 0 rfl
  have c1 := bG5.cell 1 rfl
  have c2 := bG5.cell 2 rfl
  have c3 := bG5.cell 3 rfl
  have c4 := bG5.cell 4 rfl
  have c5 := bG5.cell 5 rfl
  have c6 := bG5.cell 6 rfl
  have c7 := bG5.cell 7 rfl
  go_wp2_with fail
  refine (HM2.out _ hbw5).mono ?_
  rintro e w6 ⟨pv2, rfl, hpv2, hb6⟩
  obtain ⟨rv2, gv2, rfl, hr2', hgn2⟩ := hpv2
  have hrr : RowsAt w6 rv2 rows2 := hr2'.keeps (keeps_frm _ _)
  have hgg : IntsAt w6 gv2 gain := hgn2.keeps (keeps_frm _ _)
  clear c0 c1 c2 c3 c4 c5 c6 c7 bG5 hr2' hgn2 HM2 hpv
  go_wp2_with fail
  refine (solver_any ⟨n, rows2, gain⟩ _ _ _ hrr hgg).mono ?_
  rintro e w7 ⟨sv, u, rfl, ⟨⟨pv, rfl, hpv⟩, rfl⟩, hb7⟩
  have hp7 : StepsIn w7.cell? pv (solveF ⟨n, rows2, gain⟩).proof := hpv.keeps (keeps_frm _ _)
  rw [errF_in hV2, solve_gain hV2]
  have hok2 := proof_ok hV2
  have hbd2 := best_bd hV2
  generalize (solveF ⟨n, rows2, gain⟩).proof = PL2 at *
  generalize (solveF ⟨n, rows2, gain⟩).set = bs2
  generalize (solveF ⟨n, rows2, gain⟩).found = bf2
  generalize (bestF ⟨n, rows2, gain⟩).gain = bg2 at *
  obtain ⟨pa2, pn2, rfl, hp21, hp22, -⟩ := id hp7
  clear hrr hgg hV2 hr28 hpv
  go_upto_region 7 with (fail)
  generalize hT1 : World.alloc w7 _ = T1
  have zT1 : T1.heap.size = w7.heap.size + 1 := by rw [← hT1]; simp
  have bT1 : Below w7.heap.size w7 T1 := by rw [← hT1]; exact bal w7 _
  have bT : Blk T1 (w7.heap.size) [.bool bf2, .int .i64 bs2, .int .i64 bg2, .slice pa2 PL2.length pn2] 34 := by rw [← hT1]; exact Blk.newA w7 _ (by first | rfl | simp)
  have Tb := bT1
  have Tz := zT1
  clear hT1 zT1 bT1
  have hb57 := below2 (below2 hb6 hb7) Tb
  have hb37 := below2 hb35 hb57
  have bS7 := bS.later hb57
  replace hp7 := hp7.keeps (keeps_of_below Tb)
  replace hp4 := hp4.keeps (keeps_of_below hb57)
  replace hr3 := hr3.below hb37
  replace hg3 := hg3.below hb37
  replace bP := bP.later hb37
  replace p0 := bP.cell 0 rfl
  replace p1 := bP.cell 1 rfl
  replace p2 := bP.cell 2 rfl
  have bZ7 := bZ3.later hb37
  have hbw7 := below2 hbw3 hb37
  clear bZ bZ3 bS hb6 hb7 Tb hb4 Sb hb57 hb37 hb35 hbw5 hbw3
  go_wp2_with fail
  refine (all_any ⟨n, rows, gain⟩ _ _ _ hr3 hg3).mono ?_
  rintro e w8 ⟨av, u, rfl, ⟨hav, rfl⟩, hb8⟩
  rw [errF_in hV]
  have ha8 : IntsAt w8 av (allF ⟨n, rows, gain⟩) := hav.keeps (keeps_frm _ _)
  have HGL : Hid (gain.length ≤ 1000) := hide (by obtain ⟨-, -, -, -, h1, -⟩ := valid_parts hV; have : (gain.length : Int) = n := h1; omega)
  have HR8 := hide hr8
  obtain ⟨P, hP⟩ : ∃ P, pickF m 20 = P := ⟨_, rfl⟩
  have hP1 : 0 ≤ P := by rw [← hP]; exact pickF_nonneg m (by decide)
  have hP2 : P < 20 := by rw [← hP]; exact pickF_lt m (by decide)
  have HPK := hide (fun W => pickp_any m 20 W hm.1 hm.2 (by omega) (by omega))
  rw [hP] at HPK
  clear hP
  have HRN := hide (fun (L : List StepD) => ref_none (l := L) hV)
  have HBG := hide (fun (L : List StepD) (G : Int) => bnd_gain (l := L) (g := G) hV)
  obtain ⟨aa, an, rfl, ha1, ha2, hac⟩ := id ha8
  generalize allF ⟨n, rows, gain⟩ = AL at *
  have bS8 := bS7.later hb8
  have bT8 := bT.later hb8
  replace hp7 := hp7.keeps (keeps_of_below hb8)
  replace hp4 := hp4.keeps (keeps_of_below hb8)
  replace hr3 := hr3.below hb8
  replace hg3 := hg3.below hb8
  replace bP := bP.later hb8
  replace p0 := bP.cell 0 rfl
  replace p1 := bP.cell 1 rfl
  replace p2 := bP.cell 2 rfl
  have bZ8 := bZ7.later hb8
  have hbw8 := below2 hbw7 hb8
  have s0 := bS8.cell 0 rfl
  have s1 := bS8.cell 1 rfl
  have s2 := bS8.cell 2 rfl
  have s3 := bS8.cell 3 rfl
  have t0 := bT8.cell 0 rfl
  have t1 := bT8.cell 1 rfl
  have t2 := bT8.cell 2 rfl
  have t3 := bT8.cell 3 rfl
  clear hV bS7 bT bZ7 hbw7 hav
  go_upto_region 11 with (fail)
  generalize hB1 : World.alloc w8 _ = B1
  have zB1 : B1.heap.size = w8.heap.size + 1 := by rw [← hB1]; simp
  have bB1 : Below w8.heap.size w8 B1 := by rw [← hB1]; exact bal w8 _
  have bB : Blk B1 (w8.heap.size) [.bool bf, .int .i64 bs, .int .i64 bg, .slice pa PL.length pn, .bool bf2, .int .i64 bs2, .int .i64 bg2, .slice pa2 PL2.length pn2] 34 := by rw [← hB1]; exact Blk.newA w8 _ (by first | rfl | simp)
  have Bb := bB1
  have Bz := zB1
  clear hB1 zB1 bB1
  have HSOL : Hid (∀ k : Nat, k < 2 → ∃ (fb : Bool) (st G : Int) (Pk : List StepD) (ka : Option Addr) (kn : Nat), B1.cell? ⟨w8.heap.size, k * 4, none⟩ = some (.bool fb) ∧ B1.cell? ⟨w8.heap.size, k * 4 + 1, none⟩ = some (.int .i64 st) ∧ B1.cell? ⟨w8.heap.size, k * 4 + 2, none⟩ = some (.int .i64 G) ∧
      B1.cell? ⟨w8.heap.size, k * 4 + 3, none⟩ = some (.slice ka Pk.length kn) ∧ StepsIn B1.cell? (.slice ka Pk.length kn) Pk ∧ OkL 1 Pk ∧ Pk.length ≤ 8192 ∧ 0 < Pk.length ∧ -12000000000 ≤ G ∧ G ≤ 12000000000) := hide (fun k hk => by
    match k, hk with
    | 0, _ => exact ⟨_, _, _, _, _, _, bB.cell 0 rfl, bB.cell 1 rfl, bB.cell 2 rfl, bB.cell 3 rfl, hp4.keeps (keeps_of_below Bb), hok.1, hok.2.1, hok.2.2, hbd.1, hbd.2⟩
    | 1, _ => exact ⟨_, _, _, _, _, _, bB.cell 4 rfl, bB.cell 5 rfl, bB.cell 6 rfl, bB.cell 7 rfl, hp7.keeps (keeps_of_below Bb), hok2.1, hok2.2.1, hok2.2.2, hbd2.1, hbd2.2⟩)
  have hbw := below2 hbw8 Bb
  have hrV := hr3.below Bb
  have hgV := hg3.below Bb
  have bPV := bP.later Bb
  have bZV := bZ8.later Bb
  have haV := IntsAt.below Bb ha8
  have hlV := (HL.out).keeps (keeps_of_below hbw)
  clear hp4 hp7 hok hok2 hbd hbd2 hbw8 bP bZ8 hr3 hg3 ha8 hac s0 s1 s2 s3 t0 t1 t2 t3 bS8 bT8 bB hp1 hp2 hp21 hp22 Bb HL p0 p1 p2 hb8
  have p0 := bPV.cell 0 rfl
  have p1 := bPV.cell 1 rfl
  have p2 := bPV.cell 2 rfl
  have HBZ := hide bZV
  have hRN := fun L => HRN.out L
  have HRV := hide hrV
  have HGV := hide hgV
  have HAV := hide haV
  have HLV := hide hlV
  have hal1 : (AL.length : Int) ≤ 9223372036854775807 := by omega
  have hll1 : (l.length : Int) ≤ 9223372036854775807 := by omega
  have P0 := hide p0
  have P1 := hide p1
  have P2 := hide p2
  clear hrV hgV haV hlV hRN bPV bZV
  go_loopw [70] (fun i wr => ∃ k : Nat, k ≤ 2 ∧ i = .int .i64 k ∧ Below B1.heap.size B1 wr) (fun i _ => 2 - (intOf i).toNat)
  case atStart => exact ⟨0, by omega, rfl, Below.refl _ _⟩
  case round =>
    obtain ⟨k, hk2, rfl, hbr⟩ := hrel
    by_cases hk : k < 2
    · have hkd : decide ((k : Int) < 2) = true := by simp; omega
      obtain ⟨fb, st, G, Pk, ka, kn, k0, k1, k2, k3, hPk, hokP, hPl, hP0, hG1, hG2⟩ := HSOL.out k hk
      replace p0 := keep hbr p0
      replace p1 := keep hbr p1
      replace p2 := keep hbr p2
      have bZr := HBZ.out.later hbr
      replace k0 := keep hbr k0
      replace k1 := keep hbr k1
      replace k2 := keep hbr k2
      replace k3 := keep hbr k3
      replace hPk := hPk.keeps (keeps_of_below hbr)
      go_upto_region 13 with (fail)
      generalize hA1 : World.alloc wr _ = A1
      have zA1 : A1.heap.size = wr.heap.size + 1 := by rw [← hA1]; simp
      have bA1 : Below wr.heap.size wr A1 := by rw [← hA1]; exact bal wr _
      have bA : Blk A1 (wr.heap.size) [.bool fb, .int .i64 st, .int .i64 G, .slice ka Pk.length kn] 34 := by rw [← hA1]; exact Blk.newA wr _ (by first | rfl | simp)
      have Ab := bA1
      have Az := zA1
      clear hA1 zA1 bA1
      have y3 := bA.cell 3 rfl
      have bZA := bZr.later Ab
      have q0 := bZA.cell 0 rfl
      have q1 := bZA.cell 1 rfl
      have q2 := bZA.cell 2 rfl
      have q3 := bZA.cell 3 rfl
      go_wp2_with fail
      refine (HZ1.out Pk _ A1 (hPk.keeps (keeps_of_below Ab)) (by omega) hokP).mono ?_
      rintro e wA ⟨bv, l1, rfl, hsA, hbA, hlA, -, hokA⟩
      obtain ⟨ua, un, rfl, hu1, hu2, -⟩ := id hsA
      have hbA2 := below2 Ab hbA
      have bAA := bA.later hbA
      replace y3 := bAA.cell 3 rfl
      have y2 := bAA.cell 2 rfl
      replace bZA := bZA.later hbA
      have q4 := bZA.cell 4 rfl
      have q5 := bZA.cell 5 rfl
      have q6 := bZA.cell 6 rfl
      have q7 := bZA.cell 7 rfl
      have HSP := hide (hPk.keeps (keeps_of_below hbA2))
      have HSA := hide hsA
      have HLA := hide ((HLV.out.keeps (keeps_of_below hbr)).keeps (keeps_of_below hbA2))
      have HOA := hide hokA
      have HB := hide (below2 hbr hbA2)
      clear hsA hokA hPk hokP bA Ab k0 k1 k2 k3 q0 q1 q2 q3 p0 p1 p2 bZA bZr
      go_wp2_with fail
      refine wp_region_inv [some 79, some 80, some 81, some 82, some 83, some 84, some 85, some 86, some 87, some 88, some 89, some 90] (fun L vs W => match vs with | [x0, x1, x2, x3, x4, x5, x6, x7, x8, x9, x10, x11] => (Below wA.heap.size wA W) ∧ (L 0 = true → x0 = .pointer (some ⟨wr.heap.size, 3, none⟩)) ∧ (L 1 = true → x1 = .slice ka Pk.length kn) ∧ (L 2 = true → x2 = .slice ua l1.length un) ∧ (L 3 = true → x3 = .slice ua l1.length un) ∧ (L 4 = true → x4 = .pointer (some ⟨w.heap.size + 1, 4, none⟩)) ∧ (L 5 = true → x5 = .agg #[.int .i64 b0, .int .i64 b1, .int .i64 b2, .int .i64 b3]) ∧ (L 6 = true → ∃ l2, StepsIn W.cell? x6 l2) ∧ (L 7 = true → x7 = .slice la l.length ln) ∧ (L 8 = true → ∃ l2, StepsIn W.cell? x8 l2) ∧ (L 9 = true → FourAt W x9) ∧ (L 10 = true → x10 = .int .i64 4) ∧ (L 11 = true → x11 = .int .i64 0) | _ => False) [_, _, _, _, _, _, _, _, _, _, _, _] (by kernel_rfl) (by kernel_rfl) rfl (by simp only [puts, Act.put, List.setIfInBounds_toArray, List.set_cons_zero, List.set_cons_succ] <;> rfl) ?_ ?_ ?_
      · exact ⟨(Below.refl _ _).drew, (fun h => by cases h), (fun h => by cases h), (fun h => by cases h), (fun h => by cases h), (fun h => by cases h), (fun h => by cases h), (fun h => by cases h), (fun h => by cases h), (fun h => by cases h), (fun h => by cases h), (fun h => by cases h), (fun h => by cases h)⟩
      · refine ⟨?_, ?_, ?_, ?_, ?_, ?_, ?_, ?_, ?_, ?_, ?_, ?_, trivial⟩
        · intro L vs W hlen hL hD hI K hK
          obtain ⟨x0, x1, x2, x3, x4, x5, x6, x7, x8, x9, x10, x11, rfl⟩ := len12 hlen
          have hG := hI.1
          replace hI := hI.2
          have f0 := hide hI.1
          replace hI := hI.2
          have f1 := hide hI.1
          replace hI := hI.2
          have f2 := hide hI.1
          replace hI := hI.2
          have f3 := hide hI.1
          replace hI := hI.2
          have f4 := hide hI.1
          replace hI := hI.2
          have f5 := hide hI.1
          replace hI := hI.2
          have f6 := hide hI.1
          replace hI := hI.2
          have f7 := hide hI.1
          replace hI := hI.2
          have f8 := hide hI.1
          replace hI := hI.2
          have f9 := hide hI.1
          replace hI := hI.2
          have f10 := hide hI.1
          replace hI := hI.2
          have f11 := hide hI
          clear hI
          have y3 := keep hG y3
          have q4 := keep hG q4
          have q5 := keep hG q5
          have q6 := keep hG q6
          have q7 := keep hG q7
          try simp only [puts, Act.put, List.setIfInBounds_toArray, List.set_cons_zero, List.set_cons_succ]
          try go_simp
          exact hK.out _ _ _ (by simp only [puts, Act.put, List.setIfInBounds_toArray, List.set_cons_zero, List.set_cons_succ] <;> rfl) ⟨hG, (fun _ => rfl), (fun h => f1.out h), (fun h => f2.out h), (fun h => f3.out h), (fun h => f4.out h), (fun h => f5.out h), (fun h => f6.out h), (fun h => f7.out h), (fun h => f8.out h), (fun h => f9.out h), (fun h => f10.out h), (fun h => f11.out h)⟩
        · intro L vs W hlen hL hD hI K hK
          obtain ⟨x0, x1, x2, x3, x4, x5, x6, x7, x8, x9, x10, x11, rfl⟩ := len12 hlen
          have hG := hI.1
          replace hI := hI.2
          have f0 := hide hI.1
          replace hI := hI.2
          have f1 := hide hI.1
          replace hI := hI.2
          have f2 := hide hI.1
          replace hI := hI.2
          have f3 := hide hI.1
          replace hI := hI.2
          have f4 := hide hI.1
          replace hI := hI.2
          have f5 := hide hI.1
          replace hI := hI.2
          have f6 := hide hI.1
          replace hI := hI.2
          have f7 := hide hI.1
          replace hI := hI.2
          have f8 := hide hI.1
          replace hI := hI.2
          have f9 := hide hI.1
          replace hI := hI.2
          have f10 := hide hI.1
          replace hI := hI.2
          have f11 := hide hI
          clear hI
          have y3 := keep hG y3
          have q4 := keep hG q4
          have q5 := keep hG q5
          have q6 := keep hG q6
          have q7 := keep hG q7
          obtain rfl := f0.out (hD.on 0 (by kernel_rfl))
          try simp only [puts, Act.put, List.setIfInBounds_toArray, List.set_cons_zero, List.set_cons_succ]
          try go_simp
          exact hK.out _ _ _ (by simp only [puts, Act.put, List.setIfInBounds_toArray, List.set_cons_zero, List.set_cons_succ] <;> rfl) ⟨hG, (fun h => f0.out h), (fun _ => rfl), (fun h => f2.out h), (fun h => f3.out h), (fun h => f4.out h), (fun h => f5.out h), (fun h => f6.out h), (fun h => f7.out h), (fun h => f8.out h), (fun h => f9.out h), (fun h => f10.out h), (fun h => f11.out h)⟩
        · intro L vs W hlen hL hD hI K hK
          obtain ⟨x0, x1, x2, x3, x4, x5, x6, x7, x8, x9, x10, x11, rfl⟩ := len12 hlen
          have hG := hI.1
          replace hI := hI.2
          have f0 := hide hI.1
          replace hI := hI.2
          have f1 := hide hI.1
          replace hI := hI.2
          have f2 := hide hI.1
          replace hI := hI.2
          have f3 := hide hI.1
          replace hI := hI.2
          have f4 := hide hI.1
          replace hI := hI.2
          have f5 := hide hI.1
          replace hI := hI.2
          have f6 := hide hI.1
          replace hI := hI.2
          have f7 := hide hI.1
          replace hI := hI.2
          have f8 := hide hI.1
          replace hI := hI.2
          have f9 := hide hI.1
          replace hI := hI.2
          have f10 := hide hI.1
          replace hI := hI.2
          have f11 := hide hI
          clear hI
          have y3 := keep hG y3
          have q4 := keep hG q4
          have q5 := keep hG q5
          have q6 := keep hG q6
          have q7 := keep hG q7
          try simp only [puts, Act.put, List.setIfInBounds_toArray, List.set_cons_zero, List.set_cons_succ]
          try go_simp
          exact hK.out _ _ _ (by simp only [puts, Act.put, List.setIfInBounds_toArray, List.set_cons_zero, List.set_cons_succ] <;> rfl) ⟨hG, (fun h => f0.out h), (fun h => f1.out h), (fun _ => rfl), (fun h => f3.out h), (fun h => f4.out h), (fun h => f5.out h), (fun h => f6.out h), (fun h => f7.out h), (fun h => f8.out h), (fun h => f9.out h), (fun h => f10.out h), (fun h => f11.out h)⟩
        · intro L vs W hlen hL hD hI K hK
          obtain ⟨x0, x1, x2, x3, x4, x5, x6, x7, x8, x9, x10, x11, rfl⟩ := len12 hlen
          have hG := hI.1
          replace hI := hI.2
          have f0 := hide hI.1
          replace hI := hI.2
          have f1 := hide hI.1
          replace hI := hI.2
          have f2 := hide hI.1
          replace hI := hI.2
          have f3 := hide hI.1
          replace hI := hI.2
          have f4 := hide hI.1
          replace hI := hI.2
          have f5 := hide hI.1
          replace hI := hI.2
          have f6 := hide hI.1
          replace hI := hI.2
          have f7 := hide hI.1
          replace hI := hI.2
          have f8 := hide hI.1
          replace hI := hI.2
          have f9 := hide hI.1
          replace hI := hI.2
          have f10 := hide hI.1
          replace hI := hI.2
          have f11 := hide hI
          clear hI
          have y3 := keep hG y3
          have q4 := keep hG q4
          have q5 := keep hG q5
          have q6 := keep hG q6
          have q7 := keep hG q7
          try simp only [puts, Act.put, List.setIfInBounds_toArray, List.set_cons_zero, List.set_cons_succ]
          try go_simp
          exact hK.out _ _ _ (by simp only [puts, Act.put, List.setIfInBounds_toArray, List.set_cons_zero, List.set_cons_succ] <;> rfl) ⟨hG, (fun h => f0.out h), (fun h => f1.out h), (fun h => f2.out h), (fun _ => rfl), (fun h => f4.out h), (fun h => f5.out h), (fun h => f6.out h), (fun h => f7.out h), (fun h => f8.out h), (fun h => f9.out h), (fun h => f10.out h), (fun h => f11.out h)⟩
        · intro L vs W hlen hL hD hI K hK
          obtain ⟨x0, x1, x2, x3, x4, x5, x6, x7, x8, x9, x10, x11, rfl⟩ := len12 hlen
          have hG := hI.1
          replace hI := hI.2
          have f0 := hide hI.1
          replace hI := hI.2
          have f1 := hide hI.1
          replace hI := hI.2
          have f2 := hide hI.1
          replace hI := hI.2
          have f3 := hide hI.1
          replace hI := hI.2
          have f4 := hide hI.1
          replace hI := hI.2
          have f5 := hide hI.1
          replace hI := hI.2
          have f6 := hide hI.1
          replace hI := hI.2
          have f7 := hide hI.1
          replace hI := hI.2
          have f8 := hide hI.1
          replace hI := hI.2
          have f9 := hide hI.1
          replace hI := hI.2
          have f10 := hide hI.1
          replace hI := hI.2
          have f11 := hide hI
          clear hI
          have y3 := keep hG y3
          have q4 := keep hG q4
          have q5 := keep hG q5
          have q6 := keep hG q6
          have q7 := keep hG q7
          try simp only [puts, Act.put, List.setIfInBounds_toArray, List.set_cons_zero, List.set_cons_succ]
          try go_simp
          exact hK.out _ _ _ (by simp only [puts, Act.put, List.setIfInBounds_toArray, List.set_cons_zero, List.set_cons_succ] <;> rfl) ⟨hG, (fun h => f0.out h), (fun h => f1.out h), (fun h => f2.out h), (fun h => f3.out h), (fun _ => rfl), (fun h => f5.out h), (fun h => f6.out h), (fun h => f7.out h), (fun h => f8.out h), (fun h => f9.out h), (fun h => f10.out h), (fun h => f11.out h)⟩
        · intro L vs W hlen hL hD hI K hK
          obtain ⟨x0, x1, x2, x3, x4, x5, x6, x7, x8, x9, x10, x11, rfl⟩ := len12 hlen
          have hG := hI.1
          replace hI := hI.2
          have f0 := hide hI.1
          replace hI := hI.2
          have f1 := hide hI.1
          replace hI := hI.2
          have f2 := hide hI.1
          replace hI := hI.2
          have f3 := hide hI.1
          replace hI := hI.2
          have f4 := hide hI.1
          replace hI := hI.2
          have f5 := hide hI.1
          replace hI := hI.2
          have f6 := hide hI.1
          replace hI := hI.2
          have f7 := hide hI.1
          replace hI := hI.2
          have f8 := hide hI.1
          replace hI := hI.2
          have f9 := hide hI.1
          replace hI := hI.2
          have f10 := hide hI.1
          replace hI := hI.2
          have f11 := hide hI
          clear hI
          have y3 := keep hG y3
          have q4 := keep hG q4
          have q5 := keep hG q5
          have q6 := keep hG q6
          have q7 := keep hG q7
          obtain rfl := f4.out (hD.on 4 (by kernel_rfl))
          try simp only [puts, Act.put, List.setIfInBounds_toArray, List.set_cons_zero, List.set_cons_succ]
          try go_simp
          exact hK.out _ _ _ (by simp only [puts, Act.put, List.setIfInBounds_toArray, List.set_cons_zero, List.set_cons_succ] <;> rfl) ⟨hG, (fun h => f0.out h), (fun h => f1.out h), (fun h => f2.out h), (fun h => f3.out h), (fun h => f4.out h), (fun _ => rfl), (fun h => f6.out h), (fun h => f7.out h), (fun h => f8.out h), (fun h => f9.out h), (fun h => f10.out h), (fun h => f11.out h)⟩
        · intro L vs W hlen hL hD hI K hK
          obtain ⟨x0, x1, x2, x3, x4, x5, x6, x7, x8, x9, x10, x11, rfl⟩ := len12 hlen
          have hG := hI.1
          replace hI := hI.2
          have f0 := hide hI.1
          replace hI := hI.2
          have f1 := hide hI.1
          replace hI := hI.2
          have f2 := hide hI.1
          replace hI := hI.2
          have f3 := hide hI.1
          replace hI := hI.2
          have f4 := hide hI.1
          replace hI := hI.2
          have f5 := hide hI.1
          replace hI := hI.2
          have f6 := hide hI.1
          replace hI := hI.2
          have f7 := hide hI.1
          replace hI := hI.2
          have f8 := hide hI.1
          replace hI := hI.2
          have f9 := hide hI.1
          replace hI := hI.2
          have f10 := hide hI.1
          replace hI := hI.2
          have f11 := hide hI
          clear hI
          have y3 := keep hG y3
          have q4 := keep hG q4
          have q5 := keep hG q5
          have q6 := keep hG q6
          have q7 := keep hG q7
          obtain rfl := f3.out (hD.on 3 (by kernel_rfl))
          obtain rfl := f5.out (hD.on 5 (by kernel_rfl))
          try simp only [puts, Act.put, List.setIfInBounds_toArray, List.set_cons_zero, List.set_cons_succ]
          try go_simp
          refine (HZ2.out l1 _ W (HSA.out.keeps (keeps_of_below hG)) (by omega) HOA.out).mono ?_
          rintro e W' ⟨v', l2, rfl, hs2, hbb, -⟩
          try go_simp
          have hb := hbb
          exact hK.out _ _ _ (by simp only [puts, Act.put, List.setIfInBounds_toArray, List.set_cons_zero, List.set_cons_succ] <;> rfl) ⟨below2 hG hb, (fun h => f0.out h), (fun h => f1.out h), (fun h => f2.out h), (fun h => f3.out h), (fun h => f4.out h), (fun h => f5.out h), (fun _ => ⟨l2, hs2⟩), (fun h => f7.out h), (fun h => (fun h => (let ⟨l2, h2⟩ := h; ⟨l2, h2.keeps (keeps_of_below hb)⟩)) (f8.out h)), (fun h => (fun h => h.below hb) (f9.out h)), (fun h => f10.out h), (fun h => f11.out h)⟩
        · intro L vs W hlen hL hD hI K hK
          obtain ⟨x0, x1, x2, x3, x4, x5, x6, x7, x8, x9, x10, x11, rfl⟩ := len12 hlen
          have hG := hI.1
          replace hI := hI.2
          have f0 := hide hI.1
          replace hI := hI.2
          have f1 := hide hI.1
          replace hI := hI.2
          have f2 := hide hI.1
          replace hI := hI.2
          have f3 := hide hI.1
          replace hI := hI.2
          have f4 := hide hI.1
          replace hI := hI.2
          have f5 := hide hI.1
          replace hI := hI.2
          have f6 := hide hI.1
          replace hI := hI.2
          have f7 := hide hI.1
          replace hI := hI.2
          have f8 := hide hI.1
          replace hI := hI.2
          have f9 := hide hI.1
          replace hI := hI.2
          have f10 := hide hI.1
          replace hI := hI.2
          have f11 := hide hI
          clear hI
          have y3 := keep hG y3
          have q4 := keep hG q4
          have q5 := keep hG q5
          have q6 := keep hG q6
          have q7 := keep hG q7
          try simp only [puts, Act.put, List.setIfInBounds_toArray, List.set_cons_zero, List.set_cons_succ]
          try go_simp
          exact hK.out _ _ _ (by simp only [puts, Act.put, List.setIfInBounds_toArray, List.set_cons_zero, List.set_cons_succ] <;> rfl) ⟨hG, (fun h => f0.out h), (fun h => f1.out h), (fun h => f2.out h), (fun h => f3.out h), (fun h => f4.out h), (fun h => f5.out h), (fun h => f6.out h), (fun _ => rfl), (fun h => f8.out h), (fun h => f9.out h), (fun h => f10.out h), (fun h => f11.out h)⟩
        · intro L vs W hlen hL hD hI K hK
          obtain ⟨x0, x1, x2, x3, x4, x5, x6, x7, x8, x9, x10, x11, rfl⟩ := len12 hlen
          have hG := hI.1
          replace hI := hI.2
          have f0 := hide hI.1
          replace hI := hI.2
          have f1 := hide hI.1
          replace hI := hI.2
          have f2 := hide hI.1
          replace hI := hI.2
          have f3 := hide hI.1
          replace hI := hI.2
          have f4 := hide hI.1
          replace hI := hI.2
          have f5 := hide hI.1
          replace hI := hI.2
          have f6 := hide hI.1
          replace hI := hI.2
          have f7 := hide hI.1
          replace hI := hI.2
          have f8 := hide hI.1
          replace hI := hI.2
          have f9 := hide hI.1
          replace hI := hI.2
          have f10 := hide hI.1
          replace hI := hI.2
          have f11 := hide hI
          clear hI
          have y3 := keep hG y3
          have q4 := keep hG q4
          have q5 := keep hG q5
          have q6 := keep hG q6
          have q7 := keep hG q7
          obtain rfl := f7.out (hD.on 7 (by kernel_rfl))
          try simp only [puts, Act.put, List.setIfInBounds_toArray, List.set_cons_zero, List.set_cons_succ]
          try go_simp
          refine (fews_any l _ W (HLA.out.keeps (keeps_of_below hG))).mono ?_
          rintro e W' ⟨v', rfl, hs2, hbb⟩
          try go_simp
          have hb := hbb
          exact hK.out _ _ _ (by simp only [puts, Act.put, List.setIfInBounds_toArray, List.set_cons_zero, List.set_cons_succ] <;> rfl) ⟨below2 hG hb, (fun h => f0.out h), (fun h => f1.out h), (fun h => f2.out h), (fun h => f3.out h), (fun h => f4.out h), (fun h => f5.out h), (fun h => (fun h => (let ⟨l2, h2⟩ := h; ⟨l2, h2.keeps (keeps_of_below hb)⟩)) (f6.out h)), (fun h => f7.out h), (fun _ => ⟨_, hs2⟩), (fun h => (fun h => h.below hb) (f9.out h)), (fun h => f10.out h), (fun h => f11.out h)⟩
        · intro L vs W hlen hL hD hI K hK
          obtain ⟨x0, x1, x2, x3, x4, x5, x6, x7, x8, x9, x10, x11, rfl⟩ := len12 hlen
          have hG := hI.1
          replace hI := hI.2
          have f0 := hide hI.1
          replace hI := hI.2
          have f1 := hide hI.1
          replace hI := hI.2
          have f2 := hide hI.1
          replace hI := hI.2
          have f3 := hide hI.1
          replace hI := hI.2
          have f4 := hide hI.1
          replace hI := hI.2
          have f5 := hide hI.1
          replace hI := hI.2
          have f6 := hide hI.1
          replace hI := hI.2
          have f7 := hide hI.1
          replace hI := hI.2
          have f8 := hide hI.1
          replace hI := hI.2
          have f9 := hide hI.1
          replace hI := hI.2
          have f10 := hide hI.1
          replace hI := hI.2
          have f11 := hide hI
          clear hI
          have y3 := keep hG y3
          have q4 := keep hG q4
          have q5 := keep hG q5
          have q6 := keep hG q6
          have q7 := keep hG q7
          obtain rfl := f1.out (hD.on 1 (by kernel_rfl))
          obtain rfl := f2.out (hD.on 2 (by kernel_rfl))
          have g6 := f6.out (hD.on 6 (by kernel_rfl))
          have g8 := f8.out (hD.on 8 (by kernel_rfl))
          try simp only [puts, Act.put, List.setIfInBounds_toArray, List.set_cons_zero, List.set_cons_succ]
          obtain ⟨l6, h6⟩ := g6
          obtain ⟨a6, n6, rfl, -⟩ := id h6
          obtain ⟨l8, h8⟩ := g8
          obtain ⟨a8, n8, rfl, -⟩ := id h8
          go_simp
          generalize hW' : World.alloc W _ = W'
          have hb : Below W.heap.size W W' := by rw [← hW']; exact bal W _
          exact hK.out _ _ _ (by simp only [puts, Act.put, List.setIfInBounds_toArray, List.set_cons_zero, List.set_cons_succ] <;> rfl) ⟨below2 hG hb, (fun h => f0.out h), (fun h => f1.out h), (fun h => f2.out h), (fun h => f3.out h), (fun h => f4.out h), (fun h => f5.out h), (fun h => (fun h => (let ⟨l2, h2⟩ := h; ⟨l2, h2.keeps (keeps_of_below hb)⟩)) (f6.out h)), (fun h => f7.out h), (fun h => (fun h => (let ⟨l2, h2⟩ := h; ⟨l2, h2.keeps (keeps_of_below hb)⟩)) (f8.out h)), (fun _ => FourAt.make (b := W.heap.size) (by rw [← hW'] ; exact Blk.newA W _ rfl) ((HSP.out.keeps (keeps_of_below hG)).keeps (keeps_of_below hb)) ((HSA.out.keeps (keeps_of_below hG)).keeps (keeps_of_below hb)) (h6.keeps (keeps_of_below hb)) (h8.keeps (keeps_of_below hb))), (fun h => f10.out h), (fun h => f11.out h)⟩
        · intro L vs W hlen hL hD hI K hK
          obtain ⟨x0, x1, x2, x3, x4, x5, x6, x7, x8, x9, x10, x11, rfl⟩ := len12 hlen
          have hG := hI.1
          replace hI := hI.2
          have f0 := hide hI.1
          replace hI := hI.2
          have f1 := hide hI.1
          replace hI := hI.2
          have f2 := hide hI.1
          replace hI := hI.2
          have f3 := hide hI.1
          replace hI := hI.2
          have f4 := hide hI.1
          replace hI := hI.2
          have f5 := hide hI.1
          replace hI := hI.2
          have f6 := hide hI.1
          replace hI := hI.2
          have f7 := hide hI.1
          replace hI := hI.2
          have f8 := hide hI.1
          replace hI := hI.2
          have f9 := hide hI.1
          replace hI := hI.2
          have f10 := hide hI.1
          replace hI := hI.2
          have f11 := hide hI
          clear hI
          have y3 := keep hG y3
          have q4 := keep hG q4
          have q5 := keep hG q5
          have q6 := keep hG q6
          have q7 := keep hG q7
          have g9 := f9.out (hD.on 9 (by kernel_rfl))
          try simp only [puts, Act.put, List.setIfInBounds_toArray, List.set_cons_zero, List.set_cons_succ]
          obtain ⟨b9, rfl, h9⟩ := g9
          go_simp
          exact hK.out _ _ _ (by simp only [puts, Act.put, List.setIfInBounds_toArray, List.set_cons_zero, List.set_cons_succ] <;> rfl) ⟨hG, (fun h => f0.out h), (fun h => f1.out h), (fun h => f2.out h), (fun h => f3.out h), (fun h => f4.out h), (fun h => f5.out h), (fun h => f6.out h), (fun h => f7.out h), (fun h => f8.out h), (fun h => f9.out h), (fun _ => rfl), (fun h => f11.out h)⟩
        · intro L vs W hlen hL hD hI K hK
          obtain ⟨x0, x1, x2, x3, x4, x5, x6, x7, x8, x9, x10, x11, rfl⟩ := len12 hlen
          have hG := hI.1
          replace hI := hI.2
          have f0 := hide hI.1
          replace hI := hI.2
          have f1 := hide hI.1
          replace hI := hI.2
          have f2 := hide hI.1
          replace hI := hI.2
          have f3 := hide hI.1
          replace hI := hI.2
          have f4 := hide hI.1
          replace hI := hI.2
          have f5 := hide hI.1
          replace hI := hI.2
          have f6 := hide hI.1
          replace hI := hI.2
          have f7 := hide hI.1
          replace hI := hI.2
          have f8 := hide hI.1
          replace hI := hI.2
          have f9 := hide hI.1
          replace hI := hI.2
          have f10 := hide hI.1
          replace hI := hI.2
          have f11 := hide hI
          clear hI
          have y3 := keep hG y3
          have q4 := keep hG q4
          have q5 := keep hG q5
          have q6 := keep hG q6
          have q7 := keep hG q7
          try simp only [puts, Act.put, List.setIfInBounds_toArray, List.set_cons_zero, List.set_cons_succ]
          try go_simp
          exact hK.out _ _ _ (by simp only [puts, Act.put, List.setIfInBounds_toArray, List.set_cons_zero, List.set_cons_succ] <;> rfl) ⟨hG, (fun h => f0.out h), (fun h => f1.out h), (fun h => f2.out h), (fun h => f3.out h), (fun h => f4.out h), (fun h => f5.out h), (fun h => f6.out h), (fun h => f7.out h), (fun h => f8.out h), (fun h => f9.out h), (fun h => f10.out h), (fun _ => rfl)⟩
      intro L vs W hlen hall hI
      obtain ⟨x0, x1, x2, x3, x4, x5, x6, x7, x8, x9, x10, x11, rfl⟩ := len12 hlen
      have hG := hI.1
      replace hI := hI.2
      have f0 := hide hI.1
      replace hI := hI.2
      have f1 := hide hI.1
      replace hI := hI.2
      have f2 := hide hI.1
      replace hI := hI.2
      have f3 := hide hI.1
      replace hI := hI.2
      have f4 := hide hI.1
      replace hI := hI.2
      have f5 := hide hI.1
      replace hI := hI.2
      have f6 := hide hI.1
      replace hI := hI.2
      have f7 := hide hI.1
      replace hI := hI.2
      have f8 := hide hI.1
      replace hI := hI.2
      have f9 := hide hI.1
      replace hI := hI.2
      have f10 := hide hI.1
      replace hI := hI.2
      have f11 := hide hI
      clear hI
      obtain rfl := f0.out (hall 0 (by decide))
      obtain rfl := f1.out (hall 1 (by decide))
      obtain rfl := f2.out (hall 2 (by decide))
      obtain rfl := f3.out (hall 3 (by decide))
      obtain rfl := f4.out (hall 4 (by decide))
      obtain rfl := f5.out (hall 5 (by decide))
      have g6 := f6.out (hall 6 (by decide))
      obtain rfl := f7.out (hall 7 (by decide))
      have g8 := f8.out (hall 8 (by decide))
      have g9 := f9.out (hall 9 (by decide))
      obtain rfl := f10.out (hall 10 (by decide))
      obtain rfl := f11.out (hall 11 (by decide))
      have hal := hide hall
      clear hall f0 f1 f2 f3 f4 f5 f6 f7 f8 f9 f10 f11
      try simp only [puts, Act.put, List.setIfInBounds_toArray, List.set_cons_zero, List.set_cons_succ]
      obtain ⟨b9, rfl, h9⟩ := g9
      obtain ⟨W7, rfl⟩ : ∃ W', W' = W := ⟨_, rfl⟩
      obtain ⟨wq, rfl⟩ : ∃ z, z = wr := ⟨_, rfl⟩
      have hB7 := below2 HB.out hG
      have bA7 := bAA.later hG
      have HRV7 := hide (HRV.out.below hB7)
      have HGV7 := hide (HGV.out.below hB7)
      have HAV7 := hide (IntsAt.below hB7 HAV.out)
      have p0 := keep hB7 P0.out
      have p1 := keep hB7 P1.out
      have p2 := keep hB7 P2.out
      have s2 := bA7.cell 2 rfl
      have HB7 := hide hB7
      have H9 := hide h9
      clear g6 g8 y2 y3 q4 q5 q6 q7 bAA bA7 hG hbA hbA2 hB7 h9 HB HSP HSA HLA HOA hlA hPl hP0
      go_wp2_with fail
      go_loopw [90] (fun i wr => ∃ j : Nat, j ≤ 4 ∧ i = .int .i64 j ∧ Below W7.heap.size W7 wr) (fun i _ => 4 - (intOf i).toNat)
      case atStart => exact ⟨0, by omega, rfl, Below.refl _ _⟩
      case round =>
        obtain ⟨j, hj4, rfl, hbj⟩ := hrel
        by_cases hj : j < 4
        · have hjd : decide ((j : Int) < 4) = true := by simp; omega
          obtain ⟨va, vn, Lt, hc, hL⟩ := H9.out j hj
          obtain ⟨-, -, -, hL1, hL2, -⟩ := id hL
          replace hc := keep hbj hc
          have p0j := keep hbj p0
          have p1j := keep hbj p1
          have p2j := keep hbj p2
          go_wp2_with fail
          refine (refutesp_any ⟨n, rows, gain⟩ _ _ Lt _ _ (HRV7.out.below hbj) (HGV7.out.below hbj) (hL.keeps (keeps_of_below hbj))).mono ?_
          rintro e w5 ⟨rfl, hb5⟩
          have HR := hide (HRN.out Lt)
          generalize refB ⟨n, rows, gain⟩ Lt = RB at HR ⊢
          have hbj5 := below2 hbj hb5
          clear p0j p1j p2j hc
          have s25 := keep hbj5 s2
          cases RB
          · go_wp2_with fail
            have e1 : IntKind.i64.wrap (G + P) = G + P := IntWalk.i64_in _ ⟨by omega, by omega⟩
            have e2 : IntKind.i64.wrap (G + P - 10) = G + P - 10 := IntWalk.i64_in _ ⟨by omega, by omega⟩
            refine wp_region_inv [some 102, some 103, some 104, some 105, some 106, some 107, some 108, some 109, some 110, some 111, some 112] (fun L vs W => match vs with | [x0, x1, x2, x3, x4, x5, x6, x7, x8, x9, x10] => (Below w5.heap.size w5 W) ∧ (L 0 = true → x0 = .pointer (some ⟨wq.heap.size, 2, none⟩)) ∧ (L 1 = true → x1 = .int .i64 G) ∧ (L 2 = true → x2 = .pointer (some ⟨wq.heap.size, 2, none⟩)) ∧ (L 3 = true → x3 = .int .i64 G) ∧ (L 4 = true → x4 = .int .i64 m) ∧ (L 5 = true → x5 = .int .i64 P) ∧ (L 6 = true → x6 = .int .i64 (G + P)) ∧ (L 7 = true → x7 = .int .i64 (G + P - 10)) ∧ (L 8 = true → ∃ b : Nat, x8 = .slice (some ⟨b, 0, none⟩) 2 2 ∧ Blk W b [.int .i64 G, .int .i64 (G + P - 10)] 3) ∧ (L 9 = true → x9 = .int .i64 2) ∧ (L 10 = true → x10 = .int .i64 0) | _ => False) [_, _, _, _, _, _, _, _, _, _, _] (by kernel_rfl) (by kernel_rfl) rfl (by simp only [puts, Act.put, List.setIfInBounds_toArray, List.set_cons_zero, List.set_cons_succ] <;> rfl) ?_ ?_ ?_
            · exact ⟨(Below.refl _ _).drew, (fun h => by cases h), (fun h => by cases h), (fun h => by cases h), (fun h => by cases h), (fun h => by cases h), (fun h => by cases h), (fun h => by cases h), (fun h => by cases h), (fun h => by cases h), (fun h => by cases h), (fun h => by cases h)⟩
            · refine ⟨?_, ?_, ?_, ?_, ?_, ?_, ?_, ?_, ?_, ?_, ?_, trivial⟩
              · intro L vs W hlen hL hD hI K hK
                obtain ⟨x0, x1, x2, x3, x4, x5, x6, x7, x8, x9, x10, rfl⟩ := len11 hlen
                have hG := hI.1
                replace hI := hI.2
                have f0 := hide hI.1
                replace hI := hI.2
                have f1 := hide hI.1
                replace hI := hI.2
                have f2 := hide hI.1
                replace hI := hI.2
                have f3 := hide hI.1
                replace hI := hI.2
                have f4 := hide hI.1
                replace hI := hI.2
                have f5 := hide hI.1
                replace hI := hI.2
                have f6 := hide hI.1
                replace hI := hI.2
                have f7 := hide hI.1
                replace hI := hI.2
                have f8 := hide hI.1
                replace hI := hI.2
                have f9 := hide hI.1
                replace hI := hI.2
                have f10 := hide hI
                clear hI
                have s25 := keep hG s25
                try simp only [puts, Act.put, List.setIfInBounds_toArray, List.set_cons_zero, List.set_cons_succ]
                try go_simp
                exact hK.out _ _ _ (by simp only [puts, Act.put, List.setIfInBounds_toArray, List.set_cons_zero, List.set_cons_succ] <;> rfl) ⟨hG, (fun _ => rfl), (fun h => f1.out h), (fun h => f2.out h), (fun h => f3.out h), (fun h => f4.out h), (fun h => f5.out h), (fun h => f6.out h), (fun h => f7.out h), (fun h => f8.out h), (fun h => f9.out h), (fun h => f10.out h)⟩
              · intro L vs W hlen hL hD hI K hK
                obtain ⟨x0, x1, x2, x3, x4, x5, x6, x7, x8, x9, x10, rfl⟩ := len11 hlen
                have hG := hI.1
                replace hI := hI.2
                have f0 := hide hI.1
                replace hI := hI.2
                have f1 := hide hI.1
                replace hI := hI.2
                have f2 := hide hI.1
                replace hI := hI.2
                have f3 := hide hI.1
                replace hI := hI.2
                have f4 := hide hI.1
                replace hI := hI.2
                have f5 := hide hI.1
                replace hI := hI.2
                have f6 := hide hI.1
                replace hI := hI.2
                have f7 := hide hI.1
                replace hI := hI.2
                have f8 := hide hI.1
                replace hI := hI.2
                have f9 := hide hI.1
                replace hI := hI.2
                have f10 := hide hI
                clear hI
                have s25 := keep hG s25
                obtain rfl := f0.out (hD.on 0 (by kernel_rfl))
                try simp only [puts, Act.put, List.setIfInBounds_toArray, List.set_cons_zero, List.set_cons_succ]
                try go_simp
                exact hK.out _ _ _ (by simp only [puts, Act.put, List.setIfInBounds_toArray, List.set_cons_zero, List.set_cons_succ] <;> rfl) ⟨hG, (fun h => f0.out h), (fun _ => rfl), (fun h => f2.out h), (fun h => f3.out h), (fun h => f4.out h), (fun h => f5.out h), (fun h => f6.out h), (fun h => f7.out h), (fun h => f8.out h), (fun h => f9.out h), (fun h => f10.out h)⟩
              · intro L vs W hlen hL hD hI K hK
                obtain ⟨x0, x1, x2, x3, x4, x5, x6, x7, x8, x9, x10, rfl⟩ := len11 hlen
                have hG := hI.1
                replace hI := hI.2
                have f0 := hide hI.1
                replace hI := hI.2
                have f1 := hide hI.1
                replace hI := hI.2
                have f2 := hide hI.1
                replace hI := hI.2
                have f3 := hide hI.1
                replace hI := hI.2
                have f4 := hide hI.1
                replace hI := hI.2
                have f5 := hide hI.1
                replace hI := hI.2
                have f6 := hide hI.1
                replace hI := hI.2
                have f7 := hide hI.1
                replace hI := hI.2
                have f8 := hide hI.1
                replace hI := hI.2
                have f9 := hide hI.1
                replace hI := hI.2
                have f10 := hide hI
                clear hI
                have s25 := keep hG s25
                try simp only [puts, Act.put, List.setIfInBounds_toArray, List.set_cons_zero, List.set_cons_succ]
                try go_simp
                exact hK.out _ _ _ (by simp only [puts, Act.put, List.setIfInBounds_toArray, List.set_cons_zero, List.set_cons_succ] <;> rfl) ⟨hG, (fun h => f0.out h), (fun h => f1.out h), (fun _ => rfl), (fun h => f3.out h), (fun h => f4.out h), (fun h => f5.out h), (fun h => f6.out h), (fun h => f7.out h), (fun h => f8.out h), (fun h => f9.out h), (fun h => f10.out h)⟩
              · intro L vs W hlen hL hD hI K hK
                obtain ⟨x0, x1, x2, x3, x4, x5, x6, x7, x8, x9, x10, rfl⟩ := len11 hlen
                have hG := hI.1
                replace hI := hI.2
                have f0 := hide hI.1
                replace hI := hI.2
                have f1 := hide hI.1
                replace hI := hI.2
                have f2 := hide hI.1
                replace hI := hI.2
                have f3 := hide hI.1
                replace hI := hI.2
                have f4 := hide hI.1
                replace hI := hI.2
                have f5 := hide hI.1
                replace hI := hI.2
                have f6 := hide hI.1
                replace hI := hI.2
                have f7 := hide hI.1
                replace hI := hI.2
                have f8 := hide hI.1
                replace hI := hI.2
                have f9 := hide hI.1
                replace hI := hI.2
                have f10 := hide hI
                clear hI
                have s25 := keep hG s25
                obtain rfl := f2.out (hD.on 2 (by kernel_rfl))
                try simp only [puts, Act.put, List.setIfInBounds_toArray, List.set_cons_zero, List.set_cons_succ]
                try go_simp
                exact hK.out _ _ _ (by simp only [puts, Act.put, List.setIfInBounds_toArray, List.set_cons_zero, List.set_cons_succ] <;> rfl) ⟨hG, (fun h => f0.out h), (fun h => f1.out h), (fun h => f2.out h), (fun _ => rfl), (fun h => f4.out h), (fun h => f5.out h), (fun h => f6.out h), (fun h => f7.out h), (fun h => f8.out h), (fun h => f9.out h), (fun h => f10.out h)⟩
              · intro L vs W hlen hL hD hI K hK
                obtain ⟨x0, x1, x2, x3, x4, x5, x6, x7, x8, x9, x10, rfl⟩ := len11 hlen
                have hG := hI.1
                replace hI := hI.2
                have f0 := hide hI.1
                replace hI := hI.2
                have f1 := hide hI.1
                replace hI := hI.2
                have f2 := hide hI.1
                replace hI := hI.2
                have f3 := hide hI.1
                replace hI := hI.2
                have f4 := hide hI.1
                replace hI := hI.2
                have f5 := hide hI.1
                replace hI := hI.2
                have f6 := hide hI.1
                replace hI := hI.2
                have f7 := hide hI.1
                replace hI := hI.2
                have f8 := hide hI.1
                replace hI := hI.2
                have f9 := hide hI.1
                replace hI := hI.2
                have f10 := hide hI
                clear hI
                have s25 := keep hG s25
                try simp only [puts, Act.put, List.setIfInBounds_toArray, List.set_cons_zero, List.set_cons_succ]
                try go_simp
                exact hK.out _ _ _ (by simp only [puts, Act.put, List.setIfInBounds_toArray, List.set_cons_zero, List.set_cons_succ] <;> rfl) ⟨hG, (fun h => f0.out h), (fun h => f1.out h), (fun h => f2.out h), (fun h => f3.out h), (fun _ => rfl), (fun h => f5.out h), (fun h => f6.out h), (fun h => f7.out h), (fun h => f8.out h), (fun h => f9.out h), (fun h => f10.out h)⟩
              · intro L vs W hlen hL hD hI K hK
                obtain ⟨x0, x1, x2, x3, x4, x5, x6, x7, x8, x9, x10, rfl⟩ := len11 hlen
                have hG := hI.1
                replace hI := hI.2
                have f0 := hide hI.1
                replace hI := hI.2
                have f1 := hide hI.1
                replace hI := hI.2
                have f2 := hide hI.1
                replace hI := hI.2
                have f3 := hide hI.1
                replace hI := hI.2
                have f4 := hide hI.1
                replace hI := hI.2
                have f5 := hide hI.1
                replace hI := hI.2
                have f6 := hide hI.1
                replace hI := hI.2
                have f7 := hide hI.1
                replace hI := hI.2
                have f8 := hide hI.1
                replace hI := hI.2
                have f9 := hide hI.1
                replace hI := hI.2
                have f10 := hide hI
                clear hI
                have s25 := keep hG s25
                obtain rfl := f4.out (hD.on 4 (by kernel_rfl))
                try simp only [puts, Act.put, List.setIfInBounds_toArray, List.set_cons_zero, List.set_cons_succ]
                try go_simp
                refine (HPK.out _).mono ?_
                rintro e W' ⟨rfl, rfl⟩
                try go_simp
                exact hK.out _ _ _ (by simp only [puts, Act.put, List.setIfInBounds_toArray, List.set_cons_zero, List.set_cons_succ] <;> rfl) ⟨hG, (fun h => f0.out h), (fun h => f1.out h), (fun h => f2.out h), (fun h => f3.out h), (fun h => f4.out h), (fun _ => rfl), (fun h => f6.out h), (fun h => f7.out h), (fun h => f8.out h), (fun h => f9.out h), (fun h => f10.out h)⟩
              · intro L vs W hlen hL hD hI K hK
                obtain ⟨x0, x1, x2, x3, x4, x5, x6, x7, x8, x9, x10, rfl⟩ := len11 hlen
                have hG := hI.1
                replace hI := hI.2
                have f0 := hide hI.1
                replace hI := hI.2
                have f1 := hide hI.1
                replace hI := hI.2
                have f2 := hide hI.1
                replace hI := hI.2
                have f3 := hide hI.1
                replace hI := hI.2
                have f4 := hide hI.1
                replace hI := hI.2
                have f5 := hide hI.1
                replace hI := hI.2
                have f6 := hide hI.1
                replace hI := hI.2
                have f7 := hide hI.1
                replace hI := hI.2
                have f8 := hide hI.1
                replace hI := hI.2
                have f9 := hide hI.1
                replace hI := hI.2
                have f10 := hide hI
                clear hI
                have s25 := keep hG s25
                obtain rfl := f3.out (hD.on 3 (by kernel_rfl))
                obtain rfl := f5.out (hD.on 5 (by kernel_rfl))
                try simp only [puts, Act.put, List.setIfInBounds_toArray, List.set_cons_zero, List.set_cons_succ]
                try go_simp
                exact hK.out _ _ _ (by simp only [puts, Act.put, List.setIfInBounds_toArray, List.set_cons_zero, List.set_cons_succ] <;> rfl) ⟨hG, (fun h => f0.out h), (fun h => f1.out h), (fun h => f2.out h), (fun h => f3.out h), (fun h => f4.out h), (fun h => f5.out h), (fun _ => rfl), (fun h => f7.out h), (fun h => f8.out h), (fun h => f9.out h), (fun h => f10.out h)⟩
              · intro L vs W hlen hL hD hI K hK
                obtain ⟨x0, x1, x2, x3, x4, x5, x6, x7, x8, x9, x10, rfl⟩ := len11 hlen
                have hG := hI.1
                replace hI := hI.2
                have f0 := hide hI.1
                replace hI := hI.2
                have f1 := hide hI.1
                replace hI := hI.2
                have f2 := hide hI.1
                replace hI := hI.2
                have f3 := hide hI.1
                replace hI := hI.2
                have f4 := hide hI.1
                replace hI := hI.2
                have f5 := hide hI.1
                replace hI := hI.2
                have f6 := hide hI.1
                replace hI := hI.2
                have f7 := hide hI.1
                replace hI := hI.2
                have f8 := hide hI.1
                replace hI := hI.2
                have f9 := hide hI.1
                replace hI := hI.2
                have f10 := hide hI
                clear hI
                have s25 := keep hG s25
                obtain rfl := f6.out (hD.on 6 (by kernel_rfl))
                try simp only [puts, Act.put, List.setIfInBounds_toArray, List.set_cons_zero, List.set_cons_succ]
                try go_simp
                exact hK.out _ _ _ (by simp only [puts, Act.put, List.setIfInBounds_toArray, List.set_cons_zero, List.set_cons_succ] <;> rfl) ⟨hG, (fun h => f0.out h), (fun h => f1.out h), (fun h => f2.out h), (fun h => f3.out h), (fun h => f4.out h), (fun h => f5.out h), (fun h => f6.out h), (fun _ => rfl), (fun h => f8.out h), (fun h => f9.out h), (fun h => f10.out h)⟩
              · intro L vs W hlen hL hD hI K hK
                obtain ⟨x0, x1, x2, x3, x4, x5, x6, x7, x8, x9, x10, rfl⟩ := len11 hlen
                have hG := hI.1
                replace hI := hI.2
                have f0 := hide hI.1
                replace hI := hI.2
                have f1 := hide hI.1
                replace hI := hI.2
                have f2 := hide hI.1
                replace hI := hI.2
                have f3 := hide hI.1
                replace hI := hI.2
                have f4 := hide hI.1
                replace hI := hI.2
                have f5 := hide hI.1
                replace hI := hI.2
                have f6 := hide hI.1
                replace hI := hI.2
                have f7 := hide hI.1
                replace hI := hI.2
                have f8 := hide hI.1
                replace hI := hI.2
                have f9 := hide hI.1
                replace hI := hI.2
                have f10 := hide hI
                clear hI
                have s25 := keep hG s25
                obtain rfl := f1.out (hD.on 1 (by kernel_rfl))
                obtain rfl := f7.out (hD.on 7 (by kernel_rfl))
                try simp only [puts, Act.put, List.setIfInBounds_toArray, List.set_cons_zero, List.set_cons_succ]
                try go_simp
                generalize hW' : World.alloc W _ = W'
                have hb : Below W.heap.size W W' := by rw [← hW']; exact bal W _
                exact hK.out _ _ _ (by simp only [puts, Act.put, List.setIfInBounds_toArray, List.set_cons_zero, List.set_cons_succ] <;> rfl) ⟨below2 hG hb, (fun h => f0.out h), (fun h => f1.out h), (fun h => f2.out h), (fun h => f3.out h), (fun h => f4.out h), (fun h => f5.out h), (fun h => f6.out h), (fun h => f7.out h), (fun _ => ⟨W.heap.size, rfl, by rw [← hW'] ; exact Blk.newA W _ rfl⟩), (fun h => f9.out h), (fun h => f10.out h)⟩
              · intro L vs W hlen hL hD hI K hK
                obtain ⟨x0, x1, x2, x3, x4, x5, x6, x7, x8, x9, x10, rfl⟩ := len11 hlen
                have hG := hI.1
                replace hI := hI.2
                have f0 := hide hI.1
                replace hI := hI.2
                have f1 := hide hI.1
                replace hI := hI.2
                have f2 := hide hI.1
                replace hI := hI.2
                have f3 := hide hI.1
                replace hI := hI.2
                have f4 := hide hI.1
                replace hI := hI.2
                have f5 := hide hI.1
                replace hI := hI.2
                have f6 := hide hI.1
                replace hI := hI.2
                have f7 := hide hI.1
                replace hI := hI.2
                have f8 := hide hI.1
                replace hI := hI.2
                have f9 := hide hI.1
                replace hI := hI.2
                have f10 := hide hI
                clear hI
                have s25 := keep hG s25
                have g8 := f8.out (hD.on 8 (by kernel_rfl))
                try simp only [puts, Act.put, List.setIfInBounds_toArray, List.set_cons_zero, List.set_cons_succ]
                obtain ⟨b, rfl, h8⟩ := g8
                go_simp
                exact hK.out _ _ _ (by simp only [puts, Act.put, List.setIfInBounds_toArray, List.set_cons_zero, List.set_cons_succ] <;> rfl) ⟨hG, (fun h => f0.out h), (fun h => f1.out h), (fun h => f2.out h), (fun h => f3.out h), (fun h => f4.out h), (fun h => f5.out h), (fun h => f6.out h), (fun h => f7.out h), (fun h => f8.out h), (fun _ => rfl), (fun h => f10.out h)⟩
              · intro L vs W hlen hL hD hI K hK
                obtain ⟨x0, x1, x2, x3, x4, x5, x6, x7, x8, x9, x10, rfl⟩ := len11 hlen
                have hG := hI.1
                replace hI := hI.2
                have f0 := hide hI.1
                replace hI := hI.2
                have f1 := hide hI.1
                replace hI := hI.2
                have f2 := hide hI.1
                replace hI := hI.2
                have f3 := hide hI.1
                replace hI := hI.2
                have f4 := hide hI.1
                replace hI := hI.2
                have f5 := hide hI.1
                replace hI := hI.2
                have f6 := hide hI.1
                replace hI := hI.2
                have f7 := hide hI.1
                replace hI := hI.2
                have f8 := hide hI.1
                replace hI := hI.2
                have f9 := hide hI.1
                replace hI := hI.2
                have f10 := hide hI
                clear hI
                have s25 := keep hG s25
                try simp only [puts, Act.put, List.setIfInBounds_toArray, List.set_cons_zero, List.set_cons_succ]
                try go_simp
                exact hK.out _ _ _ (by simp only [puts, Act.put, List.setIfInBounds_toArray, List.set_cons_zero, List.set_cons_succ] <;> rfl) ⟨hG, (fun h => f0.out h), (fun h => f1.out h), (fun h => f2.out h), (fun h => f3.out h), (fun h => f4.out h), (fun h => f5.out h), (fun h => f6.out h), (fun h => f7.out h), (fun h => f8.out h), (fun h => f9.out h), (fun _ => rfl)⟩
            intro L vs W hlen hall hI
            obtain ⟨x0, x1, x2, x3, x4, x5, x6, x7, x8, x9, x10, rfl⟩ := len11 hlen
            have hG := hI.1
            replace hI := hI.2
            have f0 := hide hI.1
            replace hI := hI.2
            have f1 := hide hI.1
            replace hI := hI.2
            have f2 := hide hI.1
            replace hI := hI.2
            have f3 := hide hI.1
            replace hI := hI.2
            have f4 := hide hI.1
            replace hI := hI.2
            have f5 := hide hI.1
            replace hI := hI.2
            have f6 := hide hI.1
            replace hI := hI.2
            have f7 := hide hI.1
            replace hI := hI.2
            have f8 := hide hI.1
            replace hI := hI.2
            have f9 := hide hI.1
            replace hI := hI.2
            have f10 := hide hI
            clear hI
            obtain rfl := f0.out (hall 0 (by decide))
            obtain rfl := f1.out (hall 1 (by decide))
            obtain rfl := f2.out (hall 2 (by decide))
            obtain rfl := f3.out (hall 3 (by decide))
            obtain rfl := f4.out (hall 4 (by decide))
            obtain rfl := f5.out (hall 5 (by decide))
            obtain rfl := f6.out (hall 6 (by decide))
            obtain rfl := f7.out (hall 7 (by decide))
            have g8 := f8.out (hall 8 (by decide))
            obtain rfl := f9.out (hall 9 (by decide))
            obtain rfl := f10.out (hall 10 (by decide))
            have hal := hide hall
            clear hall f0 f1 f2 f3 f4 f5 f6 f7 f8 f9 f10
            try simp only [puts, Act.put, List.setIfInBounds_toArray, List.set_cons_zero, List.set_cons_succ]
            obtain ⟨b8, rfl, hB8⟩ := g8
            obtain ⟨W8, rfl⟩ : ∃ W', W' = W := ⟨_, rfl⟩
            have HMM : Hid (∀ c : Nat, c < 2 → ∃ mm : Int, W8.cell? ⟨b8, c, none⟩ = some (.int .i64 mm)) := hide (fun c hc => by
              match c, hc with
              | 0, _ => exact ⟨_, hB8.cell 0 rfl⟩
              | 1, _ => exact ⟨_, hB8.cell 1 rfl⟩)
            have hb78 := below2 hbj5 hG
            have HB78 := hide hb78
            have HL8 := hide (hL.keeps (keeps_of_below hb78))
            have HRV8 := hide (HRV7.out.below hb78)
            have HGV8 := hide (HGV7.out.below hb78)
            have HAV8 := hide (IntsAt.below hb78 HAV7.out)
            have p08 := keep hb78 p0
            have p18 := keep hb78 p1
            have p28 := keep hb78 p2
            clear hB8 hG hb78 s25 hb5 hbj5
            go_wp2_with fail
            go_loopw [112] (fun i wr => ∃ c : Nat, c ≤ 2 ∧ i = .int .i64 c ∧ Below W8.heap.size W8 wr) (fun i _ => 2 - (intOf i).toNat)
            case atStart => exact ⟨0, by omega, rfl, Below.refl _ _⟩
            case round =>
              obtain ⟨c, hc2, rfl, hbc⟩ := hrel
              by_cases hcl : c < 2
              · have hcd : decide ((c : Int) < 2) = true := by simp; omega
                obtain ⟨mm, hmm⟩ := HMM.out c hcl
                replace hmm := keep hbc hmm
                have p0j := keep hbc p08
                have p1j := keep hbc p18
                have p2j := keep hbc p28
                go_wp2_with fail
                refine (bounds_any ⟨n, rows, gain⟩ _ _ Lt _ mm _ (HRV8.out.below hbc) (HGV8.out.below hbc) (HL8.out.keeps (keeps_of_below hbc)) (by have := HR8.out; show rows.length ≤ 1000; omega) HGL.out).mono ?_
                rintro e w9 ⟨rfl, hb9⟩
                have HBO := hide (fun i (hi : i < AL.length) (h : boundsB ⟨n, rows, gain⟩ Lt mm = true) => HBG.out Lt mm h hi)
                generalize boundsB ⟨n, rows, gain⟩ Lt mm = BB at HBO ⊢
                have hbc9 := below2 hbc hb9
                clear p0j p1j p2j hmm
                cases BB
                · go_wp2_with fail
                  go_roundw
                  case rel => exact ⟨c + 1, by omega, by go_num, hbc9⟩
                  case measure => simp [intOf]; omega
                · go_wp2_with fail
                  go_loopw [30] (fun i wr => ∃ q : Nat, q ≤ AL.length ∧ i = .int .i64 q ∧ Below W8.heap.size W8 wr) (fun i _ => AL.length - (intOf i).toNat)
                  case atStart => exact ⟨0, by omega, rfl, hbc9⟩
                  case round =>
                    obtain ⟨q, hq, rfl, hbq⟩ := hrel
                    by_cases hql : q < AL.length
                    · have hqd : decide (q < AL.length) = true := by simpa using hql
                      obtain ⟨_, _, e, -, -, hcl2⟩ := HAV8.out
                      obtain ⟨ab, ao, rfl, hcq⟩ := hcl2 q hql
                      replace hcq := keep hbq hcq
                      have hgq := HBO.out q hql (by trivial)
                      generalize AL.getD q 0 = sq at hcq hgq
                      have hgd : decide (gainF ⟨n, rows, gain⟩ sq > mm) = false := decide_eq_false (by omega)
                      have p0j := keep hbq p08
                      have p1j := keep hbq p18
                      have p2j := keep hbq p28
                      have HRQ := hide (HRV8.out.below hbq)
                      have HGQ := hide (HGV8.out.below hbq)
                      obtain ⟨wr4, rfl⟩ : ∃ z, z = wr := ⟨_, rfl⟩
                      have hga : q < AL.length := hql
                      go_wp2_with fail
                      refine wp_region_inv [some 127, some 128, some 129, some 130, some 131, some 132, some 133, some 134] (fun L vs W => match vs with | [x0, x1, x2, x3, x4, x5, x6, x7] => (Below wr4.heap.size wr4 W) ∧ (L 0 = true → x0 = .agg #[.int .i64 n, .slice ra rows.length rc, .slice ga gain.length gc]) ∧ (L 1 = true → x1 = .slice (some ⟨ab, ao, none⟩) AL.length an) ∧ (L 2 = true → x2 = .int .i64 q) ∧ (L 3 = true → x3 = .pointer (some ⟨ab, ao + q, none⟩)) ∧ (L 4 = true → x4 = .int .i64 sq) ∧ (L 5 = true → x5 = .int .i64 (gainF ⟨n, rows, gain⟩ sq)) ∧ (L 6 = true → x6 = .int .i64 mm) ∧ (L 7 = true → x7 = .bool false) | _ => False) [_, _, _, _, _, _, _, _] (by kernel_rfl) (by kernel_rfl) rfl (by simp only [puts, Act.put, List.setIfInBounds_toArray, List.set_cons_zero, List.set_cons_succ] <;> rfl) ?_ ?_ ?_
                      · exact ⟨(Below.refl _ _).drew, (fun h => by cases h), (fun h => by cases h), (fun h => by cases h), (fun h => by cases h), (fun h => by cases h), (fun h => by cases h), (fun h => by cases h), (fun h => by cases h)⟩
                      · refine ⟨?_, ?_, ?_, ?_, ?_, ?_, ?_, ?_, trivial⟩
                        · intro L vs W hlen hL hD hI K hK
                          obtain ⟨x0, x1, x2, x3, x4, x5, x6, x7, rfl⟩ := len8 hlen
                          have hG := hI.1
                          replace hI := hI.2
                          have f0 := hide hI.1
                          replace hI := hI.2
                          have f1 := hide hI.1
                          replace hI := hI.2
                          have f2 := hide hI.1
                          replace hI := hI.2
                          have f3 := hide hI.1
                          replace hI := hI.2
                          have f4 := hide hI.1
                          replace hI := hI.2
                          have f5 := hide hI.1
                          replace hI := hI.2
                          have f6 := hide hI.1
                          replace hI := hI.2
                          have f7 := hide hI
                          clear hI
                          have p0j := keep hG p0j
                          have p1j := keep hG p1j
                          have p2j := keep hG p2j
                          have hcq := keep hG hcq
                          try simp only [puts, Act.put, List.setIfInBounds_toArray, List.set_cons_zero, List.set_cons_succ]
                          try go_simp
                          exact hK.out _ _ _ (by simp only [puts, Act.put, List.setIfInBounds_toArray, List.set_cons_zero, List.set_cons_succ] <;> rfl) ⟨hG, (fun _ => rfl), (fun h => f1.out h), (fun h => f2.out h), (fun h => f3.out h), (fun h => f4.out h), (fun h => f5.out h), (fun h => f6.out h), (fun h => f7.out h)⟩
                        · intro L vs W hlen hL hD hI K hK
                          obtain ⟨x0, x1, x2, x3, x4, x5, x6, x7, rfl⟩ := len8 hlen
                          have hG := hI.1
                          replace hI := hI.2
                          have f0 := hide hI.1
                          replace hI := hI.2
                          have f1 := hide hI.1
                          replace hI := hI.2
                          have f2 := hide hI.1
                          replace hI := hI.2
                          have f3 := hide hI.1
                          replace hI := hI.2
                          have f4 := hide hI.1
                          replace hI := hI.2
                          have f5 := hide hI.1
                          replace hI := hI.2
                          have f6 := hide hI.1
                          replace hI := hI.2
                          have f7 := hide hI
                          clear hI
                          have p0j := keep hG p0j
                          have p1j := keep hG p1j
                          have p2j := keep hG p2j
                          have hcq := keep hG hcq
                          try simp only [puts, Act.put, List.setIfInBounds_toArray, List.set_cons_zero, List.set_cons_succ]
                          try go_simp
                          exact hK.out _ _ _ (by simp only [puts, Act.put, List.setIfInBounds_toArray, List.set_cons_zero, List.set_cons_succ] <;> rfl) ⟨hG, (fun h => f0.out h), (fun _ => rfl), (fun h => f2.out h), (fun h => f3.out h), (fun h => f4.out h), (fun h => f5.out h), (fun h => f6.out h), (fun h => f7.out h)⟩
                        · intro L vs W hlen hL hD hI K hK
                          obtain ⟨x0, x1, x2, x3, x4, x5, x6, x7, rfl⟩ := len8 hlen
                          have hG := hI.1
                          replace hI := hI.2
                          have f0 := hide hI.1
                          replace hI := hI.2
                          have f1 := hide hI.1
                          replace hI := hI.2
                          have f2 := hide hI.1
                          replace hI := hI.2
                          have f3 := hide hI.1
                          replace hI := hI.2
                          have f4 := hide hI.1
                          replace hI := hI.2
                          have f5 := hide hI.1
                          replace hI := hI.2
                          have f6 := hide hI.1
                          replace hI := hI.2
                          have f7 := hide hI
                          clear hI
                          have p0j := keep hG p0j
                          have p1j := keep hG p1j
                          have p2j := keep hG p2j
                          have hcq := keep hG hcq
                          try simp only [puts, Act.put, List.setIfInBounds_toArray, List.set_cons_zero, List.set_cons_succ]
                          try go_simp
                          exact hK.out _ _ _ (by simp only [puts, Act.put, List.setIfInBounds_toArray, List.set_cons_zero, List.set_cons_succ] <;> rfl) ⟨hG, (fun h => f0.out h), (fun h => f1.out h), (fun _ => rfl), (fun h => f3.out h), (fun h => f4.out h), (fun h => f5.out h), (fun h => f6.out h), (fun h => f7.out h)⟩
                        · intro L vs W hlen hL hD hI K hK
                          obtain ⟨x0, x1, x2, x3, x4, x5, x6, x7, rfl⟩ := len8 hlen
                          have hG := hI.1
                          replace hI := hI.2
                          have f0 := hide hI.1
                          replace hI := hI.2
                          have f1 := hide hI.1
                          replace hI := hI.2
                          have f2 := hide hI.1
                          replace hI := hI.2
                          have f3 := hide hI.1
                          replace hI := hI.2
                          have f4 := hide hI.1
                          replace hI := hI.2
                          have f5 := hide hI.1
                          replace hI := hI.2
                          have f6 := hide hI.1
                          replace hI := hI.2
                          have f7 := hide hI
                          clear hI
                          have p0j := keep hG p0j
                          have p1j := keep hG p1j
                          have p2j := keep hG p2j
                          have hcq := keep hG hcq
                          obtain rfl := f1.out (hD.on 1 (by kernel_rfl))
                          obtain rfl := f2.out (hD.on 2 (by kernel_rfl))
                          try simp only [puts, Act.put, List.setIfInBounds_toArray, List.set_cons_zero, List.set_cons_succ]
                          try go_simp
                          exact hK.out _ _ _ (by simp only [puts, Act.put, List.setIfInBounds_toArray, List.set_cons_zero, List.set_cons_succ] <;> rfl) ⟨hG, (fun h => f0.out h), (fun h => f1.out h), (fun h => f2.out h), (fun _ => rfl), (fun h => f4.out h), (fun h => f5.out h), (fun h => f6.out h), (fun h => f7.out h)⟩
                        · intro L vs W hlen hL hD hI K hK
                          obtain ⟨x0, x1, x2, x3, x4, x5, x6, x7, rfl⟩ := len8 hlen
                          have hG := hI.1
                          replace hI := hI.2
                          have f0 := hide hI.1
                          replace hI := hI.2
                          have f1 := hide hI.1
                          replace hI := hI.2
                          have f2 := hide hI.1
                          replace hI := hI.2
                          have f3 := hide hI.1
                          replace hI := hI.2
                          have f4 := hide hI.1
                          replace hI := hI.2
                          have f5 := hide hI.1
                          replace hI := hI.2
                          have f6 := hide hI.1
                          replace hI := hI.2
                          have f7 := hide hI
                          clear hI
                          have p0j := keep hG p0j
                          have p1j := keep hG p1j
                          have p2j := keep hG p2j
                          have hcq := keep hG hcq
                          obtain rfl := f3.out (hD.on 3 (by kernel_rfl))
                          try simp only [puts, Act.put, List.setIfInBounds_toArray, List.set_cons_zero, List.set_cons_succ]
                          try go_simp
                          exact hK.out _ _ _ (by simp only [puts, Act.put, List.setIfInBounds_toArray, List.set_cons_zero, List.set_cons_succ] <;> rfl) ⟨hG, (fun h => f0.out h), (fun h => f1.out h), (fun h => f2.out h), (fun h => f3.out h), (fun _ => rfl), (fun h => f5.out h), (fun h => f6.out h), (fun h => f7.out h)⟩
                        · intro L vs W hlen hL hD hI K hK
                          obtain ⟨x0, x1, x2, x3, x4, x5, x6, x7, rfl⟩ := len8 hlen
                          have hG := hI.1
                          replace hI := hI.2
                          have f0 := hide hI.1
                          replace hI := hI.2
                          have f1 := hide hI.1
                          replace hI := hI.2
                          have f2 := hide hI.1
                          replace hI := hI.2
                          have f3 := hide hI.1
                          replace hI := hI.2
                          have f4 := hide hI.1
                          replace hI := hI.2
                          have f5 := hide hI.1
                          replace hI := hI.2
                          have f6 := hide hI.1
                          replace hI := hI.2
                          have f7 := hide hI
                          clear hI
                          have p0j := keep hG p0j
                          have p1j := keep hG p1j
                          have p2j := keep hG p2j
                          have hcq := keep hG hcq
                          obtain rfl := f0.out (hD.on 0 (by kernel_rfl))
                          obtain rfl := f4.out (hD.on 4 (by kernel_rfl))
                          try simp only [puts, Act.put, List.setIfInBounds_toArray, List.set_cons_zero, List.set_cons_succ]
                          try go_simp
                          refine (gain_any ⟨n, rows, gain⟩ _ _ sq W (HRQ.out.below hG) (HGQ.out.below hG)).mono ?_
                          rintro e W' ⟨rfl, hbb⟩
                          try go_simp
                          have hb := hbb
                          exact hK.out _ _ _ (by simp only [puts, Act.put, List.setIfInBounds_toArray, List.set_cons_zero, List.set_cons_succ] <;> rfl) ⟨below2 hG hb, (fun h => f0.out h), (fun h => f1.out h), (fun h => f2.out h), (fun h => f3.out h), (fun h => f4.out h), (fun _ => rfl), (fun h => f6.out h), (fun h => f7.out h)⟩
                        · intro L vs W hlen hL hD hI K hK
                          obtain ⟨x0, x1, x2, x3, x4, x5, x6, x7, rfl⟩ := len8 hlen
                          have hG := hI.1
                          replace hI := hI.2
                          have f0 := hide hI.1
                          replace hI := hI.2
                          have f1 := hide hI.1
                          replace hI := hI.2
                          have f2 := hide hI.1
                          replace hI := hI.2
                          have f3 := hide hI.1
                          replace hI := hI.2
                          have f4 := hide hI.1
                          replace hI := hI.2
                          have f5 := hide hI.1
                          replace hI := hI.2
                          have f6 := hide hI.1
                          replace hI := hI.2
                          have f7 := hide hI
                          clear hI
                          have p0j := keep hG p0j
                          have p1j := keep hG p1j
                          have p2j := keep hG p2j
                          have hcq := keep hG hcq
                          try simp only [puts, Act.put, List.setIfInBounds_toArray, List.set_cons_zero, List.set_cons_succ]
                          try go_simp
                          exact hK.out _ _ _ (by simp only [puts, Act.put, List.setIfInBounds_toArray, List.set_cons_zero, List.set_cons_succ] <;> rfl) ⟨hG, (fun h => f0.out h), (fun h => f1.out h), (fun h => f2.out h), (fun h => f3.out h), (fun h => f4.out h), (fun h => f5.out h), (fun _ => rfl), (fun h => f7.out h)⟩
                        · intro L vs W hlen hL hD hI K hK
                          obtain ⟨x0, x1, x2, x3, x4, x5, x6, x7, rfl⟩ := len8 hlen
                          have hG := hI.1
                          replace hI := hI.2
                          have f0 := hide hI.1
                          replace hI := hI.2
                          have f1 := hide hI.1
                          replace hI := hI.2
                          have f2 := hide hI.1
                          replace hI := hI.2
                          have f3 := hide hI.1
                          replace hI := hI.2
                          have f4 := hide hI.1
                          replace hI := hI.2
                          have f5 := hide hI.1
                          replace hI := hI.2
                          have f6 := hide hI.1
                          replace hI := hI.2
                          have f7 := hide hI
                          clear hI
                          have p0j := keep hG p0j
                          have p1j := keep hG p1j
                          have p2j := keep hG p2j
                          have hcq := keep hG hcq
                          obtain rfl := f5.out (hD.on 5 (by kernel_rfl))
                          obtain rfl := f6.out (hD.on 6 (by kernel_rfl))
                          try simp only [puts, Act.put, List.setIfInBounds_toArray, List.set_cons_zero, List.set_cons_succ]
                          try go_simp
                          exact hK.out _ _ _ (by simp only [puts, Act.put, List.setIfInBounds_toArray, List.set_cons_zero, List.set_cons_succ] <;> rfl) ⟨hG, (fun h => f0.out h), (fun h => f1.out h), (fun h => f2.out h), (fun h => f3.out h), (fun h => f4.out h), (fun h => f5.out h), (fun h => f6.out h), (fun _ => rfl)⟩
                      intro L vs W hlen hall hI
                      obtain ⟨x0, x1, x2, x3, x4, x5, x6, x7, rfl⟩ := len8 hlen
                      have hG := hI.1
                      replace hI := hI.2
                      have f0 := hide hI.1
                      replace hI := hI.2
                      have f1 := hide hI.1
                      replace hI := hI.2
                      have f2 := hide hI.1
                      replace hI := hI.2
                      have f3 := hide hI.1
                      replace hI := hI.2
                      have f4 := hide hI.1
                      replace hI := hI.2
                      have f5 := hide hI.1
                      replace hI := hI.2
                      have f6 := hide hI.1
                      replace hI := hI.2
                      have f7 := hide hI
                      clear hI
                      obtain rfl := f0.out (hall 0 (by decide))
                      obtain rfl := f1.out (hall 1 (by decide))
                      obtain rfl := f2.out (hall 2 (by decide))
                      obtain rfl := f3.out (hall 3 (by decide))
                      obtain rfl := f4.out (hall 4 (by decide))
                      obtain rfl := f5.out (hall 5 (by decide))
                      obtain rfl := f6.out (hall 6 (by decide))
                      obtain rfl := f7.out (hall 7 (by decide))
                      have hal := hide hall
                      clear hall f0 f1 f2 f3 f4 f5 f6 f7
                      try simp only [puts, Act.put, List.setIfInBounds_toArray, List.set_cons_zero, List.set_cons_succ]
                      have hfin := below2 hbq hG
                      go_wp2_with fail
                      go_roundw
                      case rel => exact ⟨q + 1, by omega, by go_num, hfin⟩
                      case measure => simp [intOf]; omega
                    · obtain rfl : q = AL.length := by omega
                      go_wp2_with fail
                      go_roundw
                      case rel => exact ⟨c + 1, by omega, by go_num, hbq⟩
                      case measure => simp [intOf]; omega
              · obtain rfl : c = 2 := by omega
                have hfin := below2 HB78.out hbc
                go_wp2_with fail
                go_roundw
                case rel => exact ⟨j + 1, by omega, by go_num, hfin⟩
                case measure => simp [intOf]; omega
          · have h0d : decide ((AL.length : Int) > 0) = false := decide_eq_false (by have h0 := HR.out rfl; omega)
            have h0e : decide (0 < AL.length) = false := decide_eq_false (by have h0 := HR.out rfl; omega)
            go_wp2_with fail
            clear h0d h0e
            have e1 : IntKind.i64.wrap (G + P) = G + P := IntWalk.i64_in _ ⟨by omega, by omega⟩
            have e2 : IntKind.i64.wrap (G + P - 10) = G + P - 10 := IntWalk.i64_in _ ⟨by omega, by omega⟩
            refine wp_region_inv [some 102, some 103, some 104, some 105, some 106, some 107, some 108, some 109, some 110, some 111, some 112] (fun L vs W => match vs with | [x0, x1, x2, x3, x4, x5, x6, x7, x8, x9, x10] => (Below w5.heap.size w5 W) ∧ (L 0 = true → x0 = .pointer (some ⟨wq.heap.size, 2, none⟩)) ∧ (L 1 = true → x1 = .int .i64 G) ∧ (L 2 = true → x2 = .pointer (some ⟨wq.heap.size, 2, none⟩)) ∧ (L 3 = true → x3 = .int .i64 G) ∧ (L 4 = true → x4 = .int .i64 m) ∧ (L 5 = true → x5 = .int .i64 P) ∧ (L 6 = true → x6 = .int .i64 (G + P)) ∧ (L 7 = true → x7 = .int .i64 (G + P - 10)) ∧ (L 8 = true → ∃ b : Nat, x8 = .slice (some ⟨b, 0, none⟩) 2 2 ∧ Blk W b [.int .i64 G, .int .i64 (G + P - 10)] 3) ∧ (L 9 = true → x9 = .int .i64 2) ∧ (L 10 = true → x10 = .int .i64 0) | _ => False) [_, _, _, _, _, _, _, _, _, _, _] (by kernel_rfl) (by kernel_rfl) rfl (by simp only [puts, Act.put, List.setIfInBounds_toArray, List.set_cons_zero, List.set_cons_succ] <;> rfl) ?_ ?_ ?_
            · exact ⟨(Below.refl _ _).drew, (fun h => by cases h), (fun h => by cases h), (fun h => by cases h), (fun h => by cases h), (fun h => by cases h), (fun h => by cases h), (fun h => by cases h), (fun h => by cases h), (fun h => by cases h), (fun h => by cases h), (fun h => by cases h)⟩
            · refine ⟨?_, ?_, ?_, ?_, ?_, ?_, ?_, ?_, ?_, ?_, ?_, trivial⟩
              · intro L vs W hlen hL hD hI K hK
                obtain ⟨x0, x1, x2, x3, x4, x5, x6, x7, x8, x9, x10, rfl⟩ := len11 hlen
                have hG := hI.1
                replace hI := hI.2
                have f0 := hide hI.1
                replace hI := hI.2
                have f1 := hide hI.1
                replace hI := hI.2
                have f2 := hide hI.1
                replace hI := hI.2
                have f3 := hide hI.1
                replace hI := hI.2
                have f4 := hide hI.1
                replace hI := hI.2
                have f5 := hide hI.1
                replace hI := hI.2
                have f6 := hide hI.1
                replace hI := hI.2
                have f7 := hide hI.1
                replace hI := hI.2
                have f8 := hide hI.1
                replace hI := hI.2
                have f9 := hide hI.1
                replace hI := hI.2
                have f10 := hide hI
                clear hI
                have s25 := keep hG s25
                try simp only [puts, Act.put, List.setIfInBounds_toArray, List.set_cons_zero, List.set_cons_succ]
                try go_simp
                exact hK.out _ _ _ (by simp only [puts, Act.put, List.setIfInBounds_toArray, List.set_cons_zero, List.set_cons_succ] <;> rfl) ⟨hG, (fun _ => rfl), (fun h => f1.out h), (fun h => f2.out h), (fun h => f3.out h), (fun h => f4.out h), (fun h => f5.out h), (fun h => f6.out h), (fun h => f7.out h), (fun h => f8.out h), (fun h => f9.out h), (fun h => f10.out h)⟩
              · intro L vs W hlen hL hD hI K hK
                obtain ⟨x0, x1, x2, x3, x4, x5, x6, x7, x8, x9, x10, rfl⟩ := len11 hlen
                have hG := hI.1
                replace hI := hI.2
                have f0 := hide hI.1
                replace hI := hI.2
                have f1 := hide hI.1
                replace hI := hI.2
                have f2 := hide hI.1
                replace hI := hI.2
                have f3 := hide hI.1
                replace hI := hI.2
                have f4 := hide hI.1
                replace hI := hI.2
                have f5 := hide hI.1
                replace hI := hI.2
                have f6 := hide hI.1
                replace hI := hI.2
                have f7 := hide hI.1
                replace hI := hI.2
                have f8 := hide hI.1
                replace hI := hI.2
                have f9 := hide hI.1
                replace hI := hI.2
                have f10 := hide hI
                clear hI
                have s25 := keep hG s25
                obtain rfl := f0.out (hD.on 0 (by kernel_rfl))
                try simp only [puts, Act.put, List.setIfInBounds_toArray, List.set_cons_zero, List.set_cons_succ]
                try go_simp
                exact hK.out _ _ _ (by simp only [puts, Act.put, List.setIfInBounds_toArray, List.set_cons_zero, List.set_cons_succ] <;> rfl) ⟨hG, (fun h => f0.out h), (fun _ => rfl), (fun h => f2.out h), (fun h => f3.out h), (fun h => f4.out h), (fun h => f5.out h), (fun h => f6.out h), (fun h => f7.out h), (fun h => f8.out h), (fun h => f9.out h), (fun h => f10.out h)⟩
              · intro L vs W hlen hL hD hI K hK
                obtain ⟨x0, x1, x2, x3, x4, x5, x6, x7, x8, x9, x10, rfl⟩ := len11 hlen
                have hG := hI.1
                replace hI := hI.2
                have f0 := hide hI.1
                replace hI := hI.2
                have f1 := hide hI.1
                replace hI := hI.2
                have f2 := hide hI.1
                replace hI := hI.2
                have f3 := hide hI.1
                replace hI := hI.2
                have f4 := hide hI.1
                replace hI := hI.2
                have f5 := hide hI.1
                replace hI := hI.2
                have f6 := hide hI.1
                replace hI := hI.2
                have f7 := hide hI.1
                replace hI := hI.2
                have f8 := hide hI.1
                replace hI := hI.2
                have f9 := hide hI.1
                replace hI := hI.2
                have f10 := hide hI
                clear hI
                have s25 := keep hG s25
                try simp only [puts, Act.put, List.setIfInBounds_toArray, List.set_cons_zero, List.set_cons_succ]
                try go_simp
                exact hK.out _ _ _ (by simp only [puts, Act.put, List.setIfInBounds_toArray, List.set_cons_zero, List.set_cons_succ] <;> rfl) ⟨hG, (fun h => f0.out h), (fun h => f1.out h), (fun _ => rfl), (fun h => f3.out h), (fun h => f4.out h), (fun h => f5.out h), (fun h => f6.out h), (fun h => f7.out h), (fun h => f8.out h), (fun h => f9.out h), (fun h => f10.out h)⟩
              · intro L vs W hlen hL hD hI K hK
                obtain ⟨x0, x1, x2, x3, x4, x5, x6, x7, x8, x9, x10, rfl⟩ := len11 hlen
                have hG := hI.1
                replace hI := hI.2
                have f0 := hide hI.1
                replace hI := hI.2
                have f1 := hide hI.1
                replace hI := hI.2
                have f2 := hide hI.1
                replace hI := hI.2
                have f3 := hide hI.1
                replace hI := hI.2
                have f4 := hide hI.1
                replace hI := hI.2
                have f5 := hide hI.1
                replace hI := hI.2
                have f6 := hide hI.1
                replace hI := hI.2
                have f7 := hide hI.1
                replace hI := hI.2
                have f8 := hide hI.1
                replace hI := hI.2
                have f9 := hide hI.1
                replace hI := hI.2
                have f10 := hide hI
                clear hI
                have s25 := keep hG s25
                obtain rfl := f2.out (hD.on 2 (by kernel_rfl))
                try simp only [puts, Act.put, List.setIfInBounds_toArray, List.set_cons_zero, List.set_cons_succ]
                try go_simp
                exact hK.out _ _ _ (by simp only [puts, Act.put, List.setIfInBounds_toArray, List.set_cons_zero, List.set_cons_succ] <;> rfl) ⟨hG, (fun h => f0.out h), (fun h => f1.out h), (fun h => f2.out h), (fun _ => rfl), (fun h => f4.out h), (fun h => f5.out h), (fun h => f6.out h), (fun h => f7.out h), (fun h => f8.out h), (fun h => f9.out h), (fun h => f10.out h)⟩
              · intro L vs W hlen hL hD hI K hK
                obtain ⟨x0, x1, x2, x3, x4, x5, x6, x7, x8, x9, x10, rfl⟩ := len11 hlen
                have hG := hI.1
                replace hI := hI.2
                have f0 := hide hI.1
                replace hI := hI.2
                have f1 := hide hI.1
                replace hI := hI.2
                have f2 := hide hI.1
                replace hI := hI.2
                have f3 := hide hI.1
                replace hI := hI.2
                have f4 := hide hI.1
                replace hI := hI.2
                have f5 := hide hI.1
                replace hI := hI.2
                have f6 := hide hI.1
                replace hI := hI.2
                have f7 := hide hI.1
                replace hI := hI.2
                have f8 := hide hI.1
                replace hI := hI.2
                have f9 := hide hI.1
                replace hI := hI.2
                have f10 := hide hI
                clear hI
                have s25 := keep hG s25
                try simp only [puts, Act.put, List.setIfInBounds_toArray, List.set_cons_zero, List.set_cons_succ]
                try go_simp
                exact hK.out _ _ _ (by simp only [puts, Act.put, List.setIfInBounds_toArray, List.set_cons_zero, List.set_cons_succ] <;> rfl) ⟨hG, (fun h => f0.out h), (fun h => f1.out h), (fun h => f2.out h), (fun h => f3.out h), (fun _ => rfl), (fun h => f5.out h), (fun h => f6.out h), (fun h => f7.out h), (fun h => f8.out h), (fun h => f9.out h), (fun h => f10.out h)⟩
              · intro L vs W hlen hL hD hI K hK
                obtain ⟨x0, x1, x2, x3, x4, x5, x6, x7, x8, x9, x10, rfl⟩ := len11 hlen
                have hG := hI.1
                replace hI := hI.2
                have f0 := hide hI.1
                replace hI := hI.2
                have f1 := hide hI.1
                replace hI := hI.2
                have f2 := hide hI.1
                replace hI := hI.2
                have f3 := hide hI.1
                replace hI := hI.2
                have f4 := hide hI.1
                replace hI := hI.2
                have f5 := hide hI.1
                replace hI := hI.2
                have f6 := hide hI.1
                replace hI := hI.2
                have f7 := hide hI.1
                replace hI := hI.2
                have f8 := hide hI.1
                replace hI := hI.2
                have f9 := hide hI.1
                replace hI := hI.2
                have f10 := hide hI
                clear hI
                have s25 := keep hG s25
                obtain rfl := f4.out (hD.on 4 (by kernel_rfl))
                try simp only [puts, Act.put, List.setIfInBounds_toArray, List.set_cons_zero, List.set_cons_succ]
                try go_simp
                refine (HPK.out _).mono ?_
                rintro e W' ⟨rfl, rfl⟩
                try go_simp
                exact hK.out _ _ _ (by simp only [puts, Act.put, List.setIfInBounds_toArray, List.set_cons_zero, List.set_cons_succ] <;> rfl) ⟨hG, (fun h => f0.out h), (fun h => f1.out h), (fun h => f2.out h), (fun h => f3.out h), (fun h => f4.out h), (fun _ => rfl), (fun h => f6.out h), (fun h => f7.out h), (fun h => f8.out h), (fun h => f9.out h), (fun h => f10.out h)⟩
              · intro L vs W hlen hL hD hI K hK
                obtain ⟨x0, x1, x2, x3, x4, x5, x6, x7, x8, x9, x10, rfl⟩ := len11 hlen
                have hG := hI.1
                replace hI := hI.2
                have f0 := hide hI.1
                replace hI := hI.2
                have f1 := hide hI.1
                replace hI := hI.2
                have f2 := hide hI.1
                replace hI := hI.2
                have f3 := hide hI.1
                replace hI := hI.2
                have f4 := hide hI.1
                replace hI := hI.2
                have f5 := hide hI.1
                replace hI := hI.2
                have f6 := hide hI.1
                replace hI := hI.2
                have f7 := hide hI.1
                replace hI := hI.2
                have f8 := hide hI.1
                replace hI := hI.2
                have f9 := hide hI.1
                replace hI := hI.2
                have f10 := hide hI
                clear hI
                have s25 := keep hG s25
                obtain rfl := f3.out (hD.on 3 (by kernel_rfl))
                obtain rfl := f5.out (hD.on 5 (by kernel_rfl))
                try simp only [puts, Act.put, List.setIfInBounds_toArray, List.set_cons_zero, List.set_cons_succ]
                try go_simp
                exact hK.out _ _ _ (by simp only [puts, Act.put, List.setIfInBounds_toArray, List.set_cons_zero, List.set_cons_succ] <;> rfl) ⟨hG, (fun h => f0.out h), (fun h => f1.out h), (fun h => f2.out h), (fun h => f3.out h), (fun h => f4.out h), (fun h => f5.out h), (fun _ => rfl), (fun h => f7.out h), (fun h => f8.out h), (fun h => f9.out h), (fun h => f10.out h)⟩
              · intro L vs W hlen hL hD hI K hK
                obtain ⟨x0, x1, x2, x3, x4, x5, x6, x7, x8, x9, x10, rfl⟩ := len11 hlen
                have hG := hI.1
                replace hI := hI.2
                have f0 := hide hI.1
                replace hI := hI.2
                have f1 := hide hI.1
                replace hI := hI.2
                have f2 := hide hI.1
                replace hI := hI.2
                have f3 := hide hI.1
                replace hI := hI.2
                have f4 := hide hI.1
                replace hI := hI.2
                have f5 := hide hI.1
                replace hI := hI.2
                have f6 := hide hI.1
                replace hI := hI.2
                have f7 := hide hI.1
                replace hI := hI.2
                have f8 := hide hI.1
                replace hI := hI.2
                have f9 := hide hI.1
                replace hI := hI.2
                have f10 := hide hI
                clear hI
                have s25 := keep hG s25
                obtain rfl := f6.out (hD.on 6 (by kernel_rfl))
                try simp only [puts, Act.put, List.setIfInBounds_toArray, List.set_cons_zero, List.set_cons_succ]
                try go_simp
                exact hK.out _ _ _ (by simp only [puts, Act.put, List.setIfInBounds_toArray, List.set_cons_zero, List.set_cons_succ] <;> rfl) ⟨hG, (fun h => f0.out h), (fun h => f1.out h), (fun h => f2.out h), (fun h => f3.out h), (fun h => f4.out h), (fun h => f5.out h), (fun h => f6.out h), (fun _ => rfl), (fun h => f8.out h), (fun h => f9.out h), (fun h => f10.out h)⟩
              · intro L vs W hlen hL hD hI K hK
                obtain ⟨x0, x1, x2, x3, x4, x5, x6, x7, x8, x9, x10, rfl⟩ := len11 hlen
                have hG := hI.1
                replace hI := hI.2
                have f0 := hide hI.1
                replace hI := hI.2
                have f1 := hide hI.1
                replace hI := hI.2
                have f2 := hide hI.1
                replace hI := hI.2
                have f3 := hide hI.1
                replace hI := hI.2
                have f4 := hide hI.1
                replace hI := hI.2
                have f5 := hide hI.1
                replace hI := hI.2
                have f6 := hide hI.1
                replace hI := hI.2
                have f7 := hide hI.1
                replace hI := hI.2
                have f8 := hide hI.1
                replace hI := hI.2
                have f9 := hide hI.1
                replace hI := hI.2
                have f10 := hide hI
                clear hI
                have s25 := keep hG s25
                obtain rfl := f1.out (hD.on 1 (by kernel_rfl))
                obtain rfl := f7.out (hD.on 7 (by kernel_rfl))
                try simp only [puts, Act.put, List.setIfInBounds_toArray, List.set_cons_zero, List.set_cons_succ]
                try go_simp
                generalize hW' : World.alloc W _ = W'
                have hb : Below W.heap.size W W' := by rw [← hW']; exact bal W _
                exact hK.out _ _ _ (by simp only [puts, Act.put, List.setIfInBounds_toArray, List.set_cons_zero, List.set_cons_succ] <;> rfl) ⟨below2 hG hb, (fun h => f0.out h), (fun h => f1.out h), (fun h => f2.out h), (fun h => f3.out h), (fun h => f4.out h), (fun h => f5.out h), (fun h => f6.out h), (fun h => f7.out h), (fun _ => ⟨W.heap.size, rfl, by rw [← hW'] ; exact Blk.newA W _ rfl⟩), (fun h => f9.out h), (fun h => f10.out h)⟩
              · intro L vs W hlen hL hD hI K hK
                obtain ⟨x0, x1, x2, x3, x4, x5, x6, x7, x8, x9, x10, rfl⟩ := len11 hlen
                have hG := hI.1
                replace hI := hI.2
                have f0 := hide hI.1
                replace hI := hI.2
                have f1 := hide hI.1
                replace hI := hI.2
                have f2 := hide hI.1
                replace hI := hI.2
                have f3 := hide hI.1
                replace hI := hI.2
                have f4 := hide hI.1
                replace hI := hI.2
                have f5 := hide hI.1
                replace hI := hI.2
                have f6 := hide hI.1
                replace hI := hI.2
                have f7 := hide hI.1
                replace hI := hI.2
                have f8 := hide hI.1
                replace hI := hI.2
                have f9 := hide hI.1
                replace hI := hI.2
                have f10 := hide hI
                clear hI
                have s25 := keep hG s25
                have g8 := f8.out (hD.on 8 (by kernel_rfl))
                try simp only [puts, Act.put, List.setIfInBounds_toArray, List.set_cons_zero, List.set_cons_succ]
                obtain ⟨b, rfl, h8⟩ := g8
                go_simp
                exact hK.out _ _ _ (by simp only [puts, Act.put, List.setIfInBounds_toArray, List.set_cons_zero, List.set_cons_succ] <;> rfl) ⟨hG, (fun h => f0.out h), (fun h => f1.out h), (fun h => f2.out h), (fun h => f3.out h), (fun h => f4.out h), (fun h => f5.out h), (fun h => f6.out h), (fun h => f7.out h), (fun h => f8.out h), (fun _ => rfl), (fun h => f10.out h)⟩
              · intro L vs W hlen hL hD hI K hK
                obtain ⟨x0, x1, x2, x3, x4, x5, x6, x7, x8, x9, x10, rfl⟩ := len11 hlen
                have hG := hI.1
                replace hI := hI.2
                have f0 := hide hI.1
                replace hI := hI.2
                have f1 := hide hI.1
                replace hI := hI.2
                have f2 := hide hI.1
                replace hI := hI.2
                have f3 := hide hI.1
                replace hI := hI.2
                have f4 := hide hI.1
                replace hI := hI.2
                have f5 := hide hI.1
                replace hI := hI.2
                have f6 := hide hI.1
                replace hI := hI.2
                have f7 := hide hI.1
                replace hI := hI.2
                have f8 := hide hI.1
                replace hI := hI.2
                have f9 := hide hI.1
                replace hI := hI.2
                have f10 := hide hI
                clear hI
                have s25 := keep hG s25
                try simp only [puts, Act.put, List.setIfInBounds_toArray, List.set_cons_zero, List.set_cons_succ]
                try go_simp
                exact hK.out _ _ _ (by simp only [puts, Act.put, List.setIfInBounds_toArray, List.set_cons_zero, List.set_cons_succ] <;> rfl) ⟨hG, (fun h => f0.out h), (fun h => f1.out h), (fun h => f2.out h), (fun h => f3.out h), (fun h => f4.out h), (fun h => f5.out h), (fun h => f6.out h), (fun h => f7.out h), (fun h => f8.out h), (fun h => f9.out h), (fun _ => rfl)⟩
            intro L vs W hlen hall hI
            obtain ⟨x0, x1, x2, x3, x4, x5, x6, x7, x8, x9, x10, rfl⟩ := len11 hlen
            have hG := hI.1
            replace hI := hI.2
            have f0 := hide hI.1
            replace hI := hI.2
            have f1 := hide hI.1
            replace hI := hI.2
            have f2 := hide hI.1
            replace hI := hI.2
            have f3 := hide hI.1
            replace hI := hI.2
            have f4 := hide hI.1
            replace hI := hI.2
            have f5 := hide hI.1
            replace hI := hI.2
            have f6 := hide hI.1
            replace hI := hI.2
            have f7 := hide hI.1
            replace hI := hI.2
            have f8 := hide hI.1
            replace hI := hI.2
            have f9 := hide hI.1
            replace hI := hI.2
            have f10 := hide hI
            clear hI
            obtain rfl := f0.out (hall 0 (by decide))
            obtain rfl := f1.out (hall 1 (by decide))
            obtain rfl := f2.out (hall 2 (by decide))
            obtain rfl := f3.out (hall 3 (by decide))
            obtain rfl := f4.out (hall 4 (by decide))
            obtain rfl := f5.out (hall 5 (by decide))
            obtain rfl := f6.out (hall 6 (by decide))
            obtain rfl := f7.out (hall 7 (by decide))
            have g8 := f8.out (hall 8 (by decide))
            obtain rfl := f9.out (hall 9 (by decide))
            obtain rfl := f10.out (hall 10 (by decide))
            have hal := hide hall
            clear hall f0 f1 f2 f3 f4 f5 f6 f7 f8 f9 f10
            try simp only [puts, Act.put, List.setIfInBounds_toArray, List.set_cons_zero, List.set_cons_succ]
            obtain ⟨b8, rfl, hB8⟩ := g8
            obtain ⟨W8, rfl⟩ : ∃ W', W' = W := ⟨_, rfl⟩
            have HMM : Hid (∀ c : Nat, c < 2 → ∃ mm : Int, W8.cell? ⟨b8, c, none⟩ = some (.int .i64 mm)) := hide (fun c hc => by
              match c, hc with
              | 0, _ => exact ⟨_, hB8.cell 0 rfl⟩
              | 1, _ => exact ⟨_, hB8.cell 1 rfl⟩)
            have hb78 := below2 hbj5 hG
            have HB78 := hide hb78
            have HL8 := hide (hL.keeps (keeps_of_below hb78))
            have HRV8 := hide (HRV7.out.below hb78)
            have HGV8 := hide (HGV7.out.below hb78)
            have HAV8 := hide (IntsAt.below hb78 HAV7.out)
            have p08 := keep hb78 p0
            have p18 := keep hb78 p1
            have p28 := keep hb78 p2
            clear hB8 hG hb78 s25 hb5 hbj5
            go_wp2_with fail
            go_loopw [112] (fun i wr => ∃ c : Nat, c ≤ 2 ∧ i = .int .i64 c ∧ Below W8.heap.size W8 wr) (fun i _ => 2 - (intOf i).toNat)
            case atStart => exact ⟨0, by omega, rfl, Below.refl _ _⟩
            case round =>
              obtain ⟨c, hc2, rfl, hbc⟩ := hrel
              by_cases hcl : c < 2
              · have hcd : decide ((c : Int) < 2) = true := by simp; omega
                obtain ⟨mm, hmm⟩ := HMM.out c hcl
                replace hmm := keep hbc hmm
                have p0j := keep hbc p08
                have p1j := keep hbc p18
                have p2j := keep hbc p28
                go_wp2_with fail
                refine (bounds_any ⟨n, rows, gain⟩ _ _ Lt _ mm _ (HRV8.out.below hbc) (HGV8.out.below hbc) (HL8.out.keeps (keeps_of_below hbc)) (by have := HR8.out; show rows.length ≤ 1000; omega) HGL.out).mono ?_
                rintro e w9 ⟨rfl, hb9⟩
                have HBO := hide (fun i (hi : i < AL.length) (h : boundsB ⟨n, rows, gain⟩ Lt mm = true) => HBG.out Lt mm h hi)
                generalize boundsB ⟨n, rows, gain⟩ Lt mm = BB at HBO ⊢
                have hbc9 := below2 hbc hb9
                clear p0j p1j p2j hmm
                cases BB
                · go_wp2_with fail
                  go_roundw
                  case rel => exact ⟨c + 1, by omega, by go_num, hbc9⟩
                  case measure => simp [intOf]; omega
                · go_wp2_with fail
                  go_loopw [30] (fun i wr => ∃ q : Nat, q ≤ AL.length ∧ i = .int .i64 q ∧ Below W8.heap.size W8 wr) (fun i _ => AL.length - (intOf i).toNat)
                  case atStart => exact ⟨0, by omega, rfl, hbc9⟩
                  case round =>
                    obtain ⟨q, hq, rfl, hbq⟩ := hrel
                    by_cases hql : q < AL.length
                    · have hqd : decide (q < AL.length) = true := by simpa using hql
                      obtain ⟨_, _, e, -, -, hcl2⟩ := HAV8.out
                      obtain ⟨ab, ao, rfl, hcq⟩ := hcl2 q hql
                      replace hcq := keep hbq hcq
                      have hgq := HBO.out q hql (by trivial)
                      generalize AL.getD q 0 = sq at hcq hgq
                      have hgd : decide (gainF ⟨n, rows, gain⟩ sq > mm) = false := decide_eq_false (by omega)
                      have p0j := keep hbq p08
                      have p1j := keep hbq p18
                      have p2j := keep hbq p28
                      have HRQ := hide (HRV8.out.below hbq)
                      have HGQ := hide (HGV8.out.below hbq)
                      obtain ⟨wr4, rfl⟩ : ∃ z, z = wr := ⟨_, rfl⟩
                      have hga : q < AL.length := hql
                      go_wp2_with fail
                      refine wp_region_inv [some 127, some 128, some 129, some 130, some 131, some 132, some 133, some 134] (fun L vs W => match vs with | [x0, x1, x2, x3, x4, x5, x6, x7] => (Below wr4.heap.size wr4 W) ∧ (L 0 = true → x0 = .agg #[.int .i64 n, .slice ra rows.length rc, .slice ga gain.length gc]) ∧ (L 1 = true → x1 = .slice (some ⟨ab, ao, none⟩) AL.length an) ∧ (L 2 = true → x2 = .int .i64 q) ∧ (L 3 = true → x3 = .pointer (some ⟨ab, ao + q, none⟩)) ∧ (L 4 = true → x4 = .int .i64 sq) ∧ (L 5 = true → x5 = .int .i64 (gainF ⟨n, rows, gain⟩ sq)) ∧ (L 6 = true → x6 = .int .i64 mm) ∧ (L 7 = true → x7 = .bool false) | _ => False) [_, _, _, _, _, _, _, _] (by kernel_rfl) (by kernel_rfl) rfl (by simp only [puts, Act.put, List.setIfInBounds_toArray, List.set_cons_zero, List.set_cons_succ] <;> rfl) ?_ ?_ ?_
                      · exact ⟨(Below.refl _ _).drew, (fun h => by cases h), (fun h => by cases h), (fun h => by cases h), (fun h => by cases h), (fun h => by cases h), (fun h => by cases h), (fun h => by cases h), (fun h => by cases h)⟩
                      · refine ⟨?_, ?_, ?_, ?_, ?_, ?_, ?_, ?_, trivial⟩
                        · intro L vs W hlen hL hD hI K hK
                          obtain ⟨x0, x1, x2, x3, x4, x5, x6, x7, rfl⟩ := len8 hlen
                          have hG := hI.1
                          replace hI := hI.2
                          have f0 := hide hI.1
                          replace hI := hI.2
                          have f1 := hide hI.1
                          replace hI := hI.2
                          have f2 := hide hI.1
                          replace hI := hI.2
                          have f3 := hide hI.1
                          replace hI := hI.2
                          have f4 := hide hI.1
                          replace hI := hI.2
                          have f5 := hide hI.1
                          replace hI := hI.2
                          have f6 := hide hI.1
                          replace hI := hI.2
                          have f7 := hide hI
                          clear hI
                          have p0j := keep hG p0j
                          have p1j := keep hG p1j
                          have p2j := keep hG p2j
                          have hcq := keep hG hcq
                          try simp only [puts, Act.put, List.setIfInBounds_toArray, List.set_cons_zero, List.set_cons_succ]
                          try go_simp
                          exact hK.out _ _ _ (by simp only [puts, Act.put, List.setIfInBounds_toArray, List.set_cons_zero, List.set_cons_succ] <;> rfl) ⟨hG, (fun _ => rfl), (fun h => f1.out h), (fun h => f2.out h), (fun h => f3.out h), (fun h => f4.out h), (fun h => f5.out h), (fun h => f6.out h), (fun h => f7.out h)⟩
                        · intro L vs W hlen hL hD hI K hK
                          obtain ⟨x0, x1, x2, x3, x4, x5, x6, x7, rfl⟩ := len8 hlen
                          have hG := hI.1
                          replace hI := hI.2
                          have f0 := hide hI.1
                          replace hI := hI.2
                          have f1 := hide hI.1
                          replace hI := hI.2
                          have f2 := hide hI.1
                          replace hI := hI.2
                          have f3 := hide hI.1
                          replace hI := hI.2
                          have f4 := hide hI.1
                          replace hI := hI.2
                          have f5 := hide hI.1
                          replace hI := hI.2
                          have f6 := hide hI.1
                          replace hI := hI.2
                          have f7 := hide hI
                          clear hI
                          have p0j := keep hG p0j
                          have p1j := keep hG p1j
                          have p2j := keep hG p2j
                          have hcq := keep hG hcq
                          try simp only [puts, Act.put, List.setIfInBounds_toArray, List.set_cons_zero, List.set_cons_succ]
                          try go_simp
                          exact hK.out _ _ _ (by simp only [puts, Act.put, List.setIfInBounds_toArray, List.set_cons_zero, List.set_cons_succ] <;> rfl) ⟨hG, (fun h => f0.out h), (fun _ => rfl), (fun h => f2.out h), (fun h => f3.out h), (fun h => f4.out h), (fun h => f5.out h), (fun h => f6.out h), (fun h => f7.out h)⟩
                        · intro L vs W hlen hL hD hI K hK
                          obtain ⟨x0, x1, x2, x3, x4, x5, x6, x7, rfl⟩ := len8 hlen
                          have hG := hI.1
                          replace hI := hI.2
                          have f0 := hide hI.1
                          replace hI := hI.2
                          have f1 := hide hI.1
                          replace hI := hI.2
                          have f2 := hide hI.1
                          replace hI := hI.2
                          have f3 := hide hI.1
                          replace hI := hI.2
                          have f4 := hide hI.1
                          replace hI := hI.2
                          have f5 := hide hI.1
                          replace hI := hI.2
                          have f6 := hide hI.1
                          replace hI := hI.2
                          have f7 := hide hI
                          clear hI
                          have p0j := keep hG p0j
                          have p1j := keep hG p1j
                          have p2j := keep hG p2j
                          have hcq := keep hG hcq
                          try simp only [puts, Act.put, List.setIfInBounds_toArray, List.set_cons_zero, List.set_cons_succ]
                          try go_simp
                          exact hK.out _ _ _ (by simp only [puts, Act.put, List.setIfInBounds_toArray, List.set_cons_zero, List.set_cons_succ] <;> rfl) ⟨hG, (fun h => f0.out h), (fun h => f1.out h), (fun _ => rfl), (fun h => f3.out h), (fun h => f4.out h), (fun h => f5.out h), (fun h => f6.out h), (fun h => f7.out h)⟩
                        · intro L vs W hlen hL hD hI K hK
                          obtain ⟨x0, x1, x2, x3, x4, x5, x6, x7, rfl⟩ := len8 hlen
                          have hG := hI.1
                          replace hI := hI.2
                          have f0 := hide hI.1
                          replace hI := hI.2
                          have f1 := hide hI.1
                          replace hI := hI.2
                          have f2 := hide hI.1
                          replace hI := hI.2
                          have f3 := hide hI.1
                          replace hI := hI.2
                          have f4 := hide hI.1
                          replace hI := hI.2
                          have f5 := hide hI.1
                          replace hI := hI.2
                          have f6 := hide hI.1
                          replace hI := hI.2
                          have f7 := hide hI
                          clear hI
                          have p0j := keep hG p0j
                          have p1j := keep hG p1j
                          have p2j := keep hG p2j
                          have hcq := keep hG hcq
                          obtain rfl := f1.out (hD.on 1 (by kernel_rfl))
                          obtain rfl := f2.out (hD.on 2 (by kernel_rfl))
                          try simp only [puts, Act.put, List.setIfInBounds_toArray, List.set_cons_zero, List.set_cons_succ]
                          try go_simp
                          exact hK.out _ _ _ (by simp only [puts, Act.put, List.setIfInBounds_toArray, List.set_cons_zero, List.set_cons_succ] <;> rfl) ⟨hG, (fun h => f0.out h), (fun h => f1.out h), (fun h => f2.out h), (fun _ => rfl), (fun h => f4.out h), (fun h => f5.out h), (fun h => f6.out h), (fun h => f7.out h)⟩
                        · intro L vs W hlen hL hD hI K hK
                          obtain ⟨x0, x1, x2, x3, x4, x5, x6, x7, rfl⟩ := len8 hlen
                          have hG := hI.1
                          replace hI := hI.2
                          have f0 := hide hI.1
                          replace hI := hI.2
                          have f1 := hide hI.1
                          replace hI := hI.2
                          have f2 := hide hI.1
                          replace hI := hI.2
                          have f3 := hide hI.1
                          replace hI := hI.2
                          have f4 := hide hI.1
                          replace hI := hI.2
                          have f5 := hide hI.1
                          replace hI := hI.2
                          have f6 := hide hI.1
                          replace hI := hI.2
                          have f7 := hide hI
                          clear hI
                          have p0j := keep hG p0j
                          have p1j := keep hG p1j
                          have p2j := keep hG p2j
                          have hcq := keep hG hcq
                          obtain rfl := f3.out (hD.on 3 (by kernel_rfl))
                          try simp only [puts, Act.put, List.setIfInBounds_toArray, List.set_cons_zero, List.set_cons_succ]
                          try go_simp
                          exact hK.out _ _ _ (by simp only [puts, Act.put, List.setIfInBounds_toArray, List.set_cons_zero, List.set_cons_succ] <;> rfl) ⟨hG, (fun h => f0.out h), (fun h => f1.out h), (fun h => f2.out h), (fun h => f3.out h), (fun _ => rfl), (fun h => f5.out h), (fun h => f6.out h), (fun h => f7.out h)⟩
                        · intro L vs W hlen hL hD hI K hK
                          obtain ⟨x0, x1, x2, x3, x4, x5, x6, x7, rfl⟩ := len8 hlen
                          have hG := hI.1
                          replace hI := hI.2
                          have f0 := hide hI.1
                          replace hI := hI.2
                          have f1 := hide hI.1
                          replace hI := hI.2
                          have f2 := hide hI.1
                          replace hI := hI.2
                          have f3 := hide hI.1
                          replace hI := hI.2
                          have f4 := hide hI.1
                          replace hI := hI.2
                          have f5 := hide hI.1
                          replace hI := hI.2
                          have f6 := hide hI.1
                          replace hI := hI.2
                          have f7 := hide hI
                          clear hI
                          have p0j := keep hG p0j
                          have p1j := keep hG p1j
                          have p2j := keep hG p2j
                          have hcq := keep hG hcq
                          obtain rfl := f0.out (hD.on 0 (by kernel_rfl))
                          obtain rfl := f4.out (hD.on 4 (by kernel_rfl))
                          try simp only [puts, Act.put, List.setIfInBounds_toArray, List.set_cons_zero, List.set_cons_succ]
                          try go_simp
                          refine (gain_any ⟨n, rows, gain⟩ _ _ sq W (HRQ.out.below hG) (HGQ.out.below hG)).mono ?_
                          rintro e W' ⟨rfl, hbb⟩
                          try go_simp
                          have hb := hbb
                          exact hK.out _ _ _ (by simp only [puts, Act.put, List.setIfInBounds_toArray, List.set_cons_zero, List.set_cons_succ] <;> rfl) ⟨below2 hG hb, (fun h => f0.out h), (fun h => f1.out h), (fun h => f2.out h), (fun h => f3.out h), (fun h => f4.out h), (fun _ => rfl), (fun h => f6.out h), (fun h => f7.out h)⟩
                        · intro L vs W hlen hL hD hI K hK
                          obtain ⟨x0, x1, x2, x3, x4, x5, x6, x7, rfl⟩ := len8 hlen
                          have hG := hI.1
                          replace hI := hI.2
                          have f0 := hide hI.1
                          replace hI := hI.2
                          have f1 := hide hI.1
                          replace hI := hI.2
                          have f2 := hide hI.1
                          replace hI := hI.2
                          have f3 := hide hI.1
                          replace hI := hI.2
                          have f4 := hide hI.1
                          replace hI := hI.2
                          have f5 := hide hI.1
                          replace hI := hI.2
                          have f6 := hide hI.1
                          replace hI := hI.2
                          have f7 := hide hI
                          clear hI
                          have p0j := keep hG p0j
                          have p1j := keep hG p1j
                          have p2j := keep hG p2j
                          have hcq := keep hG hcq
                          try simp only [puts, Act.put, List.setIfInBounds_toArray, List.set_cons_zero, List.set_cons_succ]
                          try go_simp
                          exact hK.out _ _ _ (by simp only [puts, Act.put, List.setIfInBounds_toArray, List.set_cons_zero, List.set_cons_succ] <;> rfl) ⟨hG, (fun h => f0.out h), (fun h => f1.out h), (fun h => f2.out h), (fun h => f3.out h), (fun h => f4.out h), (fun h => f5.out h), (fun _ => rfl), (fun h => f7.out h)⟩
                        · intro L vs W hlen hL hD hI K hK
                          obtain ⟨x0, x1, x2, x3, x4, x5, x6, x7, rfl⟩ := len8 hlen
                          have hG := hI.1
                          replace hI := hI.2
                          have f0 := hide hI.1
                          replace hI := hI.2
                          have f1 := hide hI.1
                          replace hI := hI.2
                          have f2 := hide hI.1
                          replace hI := hI.2
                          have f3 := hide hI.1
                          replace hI := hI.2
                          have f4 := hide hI.1
                          replace hI := hI.2
                          have f5 := hide hI.1
                          replace hI := hI.2
                          have f6 := hide hI.1
                          replace hI := hI.2
                          have f7 := hide hI
                          clear hI
                          have p0j := keep hG p0j
                          have p1j := keep hG p1j
                          have p2j := keep hG p2j
                          have hcq := keep hG hcq
                          obtain rfl := f5.out (hD.on 5 (by kernel_rfl))
                          obtain rfl := f6.out (hD.on 6 (by kernel_rfl))
                          try simp only [puts, Act.put, List.setIfInBounds_toArray, List.set_cons_zero, List.set_cons_succ]
                          try go_simp
                          exact hK.out _ _ _ (by simp only [puts, Act.put, List.setIfInBounds_toArray, List.set_cons_zero, List.set_cons_succ] <;> rfl) ⟨hG, (fun h => f0.out h), (fun h => f1.out h), (fun h => f2.out h), (fun h => f3.out h), (fun h => f4.out h), (fun h => f5.out h), (fun h => f6.out h), (fun _ => rfl)⟩
                      intro L vs W hlen hall hI
                      obtain ⟨x0, x1, x2, x3, x4, x5, x6, x7, rfl⟩ := len8 hlen
                      have hG := hI.1
                      replace hI := hI.2
                      have f0 := hide hI.1
                      replace hI := hI.2
                      have f1 := hide hI.1
                      replace hI := hI.2
                      have f2 := hide hI.1
                      replace hI := hI.2
                      have f3 := hide hI.1
                      replace hI := hI.2
                      have f4 := hide hI.1
                      replace hI := hI.2
                      have f5 := hide hI.1
                      replace hI := hI.2
                      have f6 := hide hI.1
                      replace hI := hI.2
                      have f7 := hide hI
                      clear hI
                      obtain rfl := f0.out (hall 0 (by decide))
                      obtain rfl := f1.out (hall 1 (by decide))
                      obtain rfl := f2.out (hall 2 (by decide))
                      obtain rfl := f3.out (hall 3 (by decide))
                      obtain rfl := f4.out (hall 4 (by decide))
                      obtain rfl := f5.out (hall 5 (by decide))
                      obtain rfl := f6.out (hall 6 (by decide))
                      obtain rfl := f7.out (hall 7 (by decide))
                      have hal := hide hall
                      clear hall f0 f1 f2 f3 f4 f5 f6 f7
                      try simp only [puts, Act.put, List.setIfInBounds_toArray, List.set_cons_zero, List.set_cons_succ]
                      have hfin := below2 hbq hG
                      go_wp2_with fail
                      go_roundw
                      case rel => exact ⟨q + 1, by omega, by go_num, hfin⟩
                      case measure => simp [intOf]; omega
                    · obtain rfl : q = AL.length := by omega
                      go_wp2_with fail
                      go_roundw
                      case rel => exact ⟨c + 1, by omega, by go_num, hbq⟩
                      case measure => simp [intOf]; omega
              · obtain rfl : c = 2 := by omega
                have hfin := below2 HB78.out hbc
                go_wp2_with fail
                go_roundw
                case rel => exact ⟨j + 1, by omega, by go_num, hfin⟩
                case measure => simp [intOf]; omega
        · obtain rfl : j = 4 := by omega
          have hfin := below2 HB7.out hbj
          go_wp2_with fail
          go_roundw
          case rel => exact ⟨k + 1, by omega, by go_num, hfin⟩
          case measure => simp [intOf]; omega
    · obtain rfl : k = 2 := by omega
      go_wp2_with fail
      go_ret
      exact ⟨rfl, below2 hbw hbr⟩
end Go.Proofs.Ytppfdjjhloaopaa
namespace Go.Proofs.Ytppfdjjhloaopaa
open Go.ChangeShapes Go.WideShapes Go.ChangeAt Go.RowKit

set_option maxRecDepth 100000 in
theorem sound_lifted (os : Os) (started : os.Started) (H : Type) (enc : TypeId × Value → H) :
    ReturnsInHanded {} Try.checked os 5 .any (Rows.proofSoundSpec.pre6 enc Try.prog Try.f5 Rows.proofSoundRow.domain false) (Rows.proofSoundSpec.post enc Try.prog Try.f5 false true false false) := by
  refine returnsInHanded_of_change (C := Try.checked) Try.own started (by kernel_rfl) Try.func5
    (ChangeSpec.witness6 (enc := enc) (C := Try.checked) false ⟨#[], #[.int .i64 0, .slice none 0 0, .slice none 0 0, .agg #[.int .i64 0, .int .i64 0, .int .i64 0, .int .i64 0, .int .i64 0, .int .i64 0, .int .i64 0, .int .i64 0], .agg #[.int .i64 0, .int .i64 0, .int .i64 0, .int .i64 0, .int .i64 0, .int .i64 0, .int .i64 0, .int .i64 0], .slice none 0 0, .int .i64 0], []⟩ 8 (by kernel_rfl) (by kernel_rfl) (by kernel_rfl) (by kernel_rfl)) ?_
  intro W base args ds gs before hval0 hW hcnd _
  have hval : ∀ (j : Nat) t v, Try.f5.params[j]? = some t → args[j]? = some v → Value.okWide Try.prog W .any base t v := hval0
  have hW' := hW
  obtain ⟨p, q, hA0, hV, rfl, hfz, hnd⟩ := hW
  have hA : DataW.TrodAll enc Try.prog W 0 (fun _ => true) true Try.f5.params.toList args.toList ds p := hA0
  rw [Try.params5] at hA hval
  obtain ⟨v0, as0, d0, ds0, p0, q0, e0, rfl, rfl, h0, hA⟩ := trodAll_cons hA
  obtain ⟨v1, as1, d1, ds1, p1, q1, rfl, rfl, rfl, h1, hA⟩ := trodAll_cons hA
  obtain ⟨v2, as2, d2, ds2, p2, q2, rfl, rfl, rfl, h2, hA⟩ := trodAll_cons hA
  obtain ⟨v3, as3, d3, ds3, p3, q3, rfl, rfl, rfl, h3, hA⟩ := trodAll_cons hA
  obtain ⟨v4, as4, d4, ds4, p4, q4, rfl, rfl, rfl, h4, hA⟩ := trodAll_cons hA
  obtain ⟨v5, as5, d5, ds5, p5, q5, rfl, rfl, rfl, h5, hA⟩ := trodAll_cons hA
  obtain ⟨v6, as6, d6, ds6, p6, q6, rfl, rfl, rfl, h6, hA⟩ := trodAll_cons hA
  obtain ⟨rfl, rfl, rfl⟩ := trodAll_nil hA
  obtain rfl : args = #[v0, v1, v2, v3, v4, v5, v6] := by cases args; simp_all
  obtain ⟨rfl, rfl⟩ := trodVars_none hV
  obtain ⟨x0, rfl, b0⟩ := open_i64 (hval 0 3 v0 rfl rfl) h0
  obtain ⟨x1, b1, c1⟩ := open_tris (hval 1 22 v1 rfl rfl) h1
  obtain ⟨x2, b2, c2⟩ := open_tris (hval 2 22 v2 rfl rfl) h2
  obtain ⟨x3, b3, rfl, c3⟩ := open_gains (hval 3 23 v3 rfl rfl) h3
  obtain ⟨y4, z4, rfl, b4, c4, d4, e4⟩ := open_bend2 (hval 4 29 v4 rfl rfl) h4
  obtain ⟨x5, b5⟩ := open_steps (hval 5 30 v5 rfl rfl) h5
  obtain ⟨x6, rfl, b6⟩ := open_i64 (hval 6 3 v6 rfl rfl) h6
  refine (sound_any x0 x1 v1 x2 v2 x3 y4 z4 x5 v5 x6 W b0 b1 c1 b2 c2 b3 c3 b4 c4 d4 e4 b5 b6).mono fun e W' ⟨he, hb⟩ => ⟨_, he, ?_⟩
  exact post_law Try.laidOut (by kernel_rfl) rfl rfl Try.underlying4 rfl hW' hb
theorem sound_holds : Rows.ProofSoundSaid :=
  OpenClaim.holds_of_wide 5 Try.f5 rfl rfl rfl rfl rfl rfl rfl ⟨rfl, rfl, rfl, rfl, rfl⟩ rfl rfl rfl rfl rfl (by kernel_rfl) Try.func5 (by kernel_rfl)
    (of_decide_eq_true (by kernel_rfl)) (by unfold Func.isWrapper; first | (rw [if_pos (by decide +kernel)]; kernel_rfl) | (rw [if_neg (by decide +kernel)]; exact ⟨rfl, rfl⟩))
    (fun os started H enc _ => sound_lifted os started H enc)
end Go.Proofs.Ytppfdjjhloaopaa
