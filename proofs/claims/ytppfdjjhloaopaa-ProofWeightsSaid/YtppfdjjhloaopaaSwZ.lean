/- ProofWeights: for every input the law returns true. No condition. -/
import Derived.Test.YtppfdjjhloaopaaSwD
import Derived.Test.YtppfdjjhloaopaaSwC
import Derived.Test.YtppfdjjhloaopaaSwB
import Derived.Test.YtppfdjjhloaopaaSwA
/- The walk of ProofWeights. Conditions: how the arguments lie in memory; that integers are of 64 bits. -/
namespace Go.Proofs.Ytppfdjjhloaopaa
open Go.RowKit

/-- the block of a copy of the steps is of the call's own -/
theorem BT.ge {w W : World} {g c k : Nat} {l : List StepD} {st : StepD} {wv : Value} {d : Nat} (h : BT d w W g c k l st wv) : w.heap.size ≤ g := by
  obtain ⟨L, h1, -⟩ := h
  rcases h1.form with ⟨e1, -⟩ | ⟨g', c', cur', e1, e2, -⟩
  · cases e1
  · injection e1 with h7 _ _; injection h7 with h7; injection h7 with h7; rw [h7]; omega
set_option maxRecDepth 100000 in
set_option maxHeartbeats 16000000 in
theorem weights_any (v : Int) (x : List Tri) (xv : Value) (g : List Int) (z : List Int) (wh by_ : Int) (ex : StepD) (exv : Value) (w : World) (hv : i64B v) (hx : TrisIn w.cell? xv x) (hx64 : ∀ t ∈ x, tri64 t)
    (hg : g.length = 8) (hg64 : ∀ y ∈ g, i64B y) (hz : z.length = 4) (hz64 : ∀ y ∈ z, i64B y) (hwh : i64B wh) (hby : i64B by_) (hex : WtsIn w.cell? exv ex.wts) :
    Calls Try.prog 4 #[.int .i64 v, xv, .agg (g.map (Value.int .i64)).toArray, .agg (z.map (Value.int .i64)).toArray, .int .i64 wh, .int .i64 by_, .agg #[.int .i64 ex.var, .int .i64 ex.no, .int .i64 ex.yes, exv]] w (Ret (.bool true) w) := by
  obtain ⟨ea, en, rfl, he1, he2, -⟩ := id hex
  obtain ⟨a0, a1, a2, a3, rfl⟩ : ∃ a b c d, z = [a, b, c, d] := by
    match z, hz with
    | [a, b, c, d], _ => exact ⟨_, _, _, _, rfl⟩
  have HZ1 := hide (fun (L : List StepD) (Lv : Value) (W : World) (hs : StepsIn W.cell? Lv L) (h1 : L.length ≤ 10000) (h2 : OkL 1 L) => bent_any 1 L Lv [a0, a1, a2, a3] W hs h1 (by omega) h2 rfl hz64)
  have HEX := hide hex
  obtain ⟨g0, g1, g2, g3, g4, g5, g6, g7, rfl⟩ : ∃ g0 g1 g2 g3 g4 g5 g6 g7, g = [g0, g1, g2, g3, g4, g5, g6, g7] := by
    match g, hg with
    | [a, b, c, d, e, f, g, h], _ => exact ⟨_, _, _, _, _, _, _, _, rfl⟩
  obtain ⟨xa, xn, rfl, hx1, hx2, -⟩ := id hx
  have HM := hide (fun W (h : Below w.heap.size w W) => made_any v x (.slice xa x.length xn) [g0, g1, g2, g3, g4, g5, g6, g7] W hv (TrisIn.keeps (keeps_of_below h) hx) hx64 hg hg64)
  clear hx hx64 hg hg64
  clear hz hz64 hex he1 he2
  go_enter Try.func4, Try.ntmps4
  go_wp2_with fail
  generalize hX1 : World.alloc w _ = X1
  have zX1 : X1.heap.size = w.heap.size + 1 := by rw [← hX1]; simp
  have bX1 : Below w.heap.size w X1 := by rw [← hX1]; exact bal w _
  have bG_1 : Blk X1 (w.heap.size) [.int .i64 g0, .int .i64 g1, .int .i64 g2, .int .i64 g3, .int .i64 g4, .int .i64 g5, .int .i64 g6, .int .i64 g7] 23 := by rw [← hX1]; exact Blk.newA w _ (by first | rfl | simp)
  generalize hX2 : World.alloc X1 _ = X2
  have zX2 : X2.heap.size = w.heap.size + 1 + 1 := by rw [← hX2]; simp [zX1]
  have bX2 : Below X1.heap.size X1 X2 := by rw [← hX2]; exact bal X1 _
  have bZ_2 : Blk X2 (w.heap.size + 1) [.int .i64 a0, .int .i64 a1, .int .i64 a2, .int .i64 a3] 28 := by rw [← hX2, ← zX1]; exact Blk.newA X1 _ (by first | rfl | simp)
  have bG_2 := bG_1.later bX2
  generalize hX3 : World.alloc X2 _ = X3
  have zX3 : X3.heap.size = w.heap.size + 1 + 1 + 1 := by rw [← hX3]; simp [zX2]
  have bX3 : Below X2.heap.size X2 X3 := by rw [← hX3]; exact bal X2 _
  have bE : Blk X3 (w.heap.size + 1 + 1) [.int .i64 ex.var, .int .i64 ex.no, .int .i64 ex.yes, .slice ea ex.wts.length en] 54 := by rw [← hX3, ← zX2]; exact Blk.newA X2 _ (by first | rfl | simp)
  have bG := bG_2.later bX3
  have bZ := bZ_2.later bX3
  have Xb := below2 (below2 (bX1) bX2) bX3
  have Xz := zX3
  clear hX1 zX1 bX1 hX2 zX2 bX2 hX3 zX3 bX3 bG_1 bG_2 bZ_2
  have hb0 := Xb
  refine (sane34_any _).mono ?_
  rintro e w1 ⟨rfl, hb1⟩
  have bG1 := bG.later hb1
  have c0 := bG1.cell 0 rfl
  have c1 := bG1.cell 1 rfl
  have c2 := bG1.cell 2 rfl
  have c3 := bG1.cell 3 rfl
  have c4 := bG1.cell 4 rfl
  have c5 := bG1.cell 5 rfl
  have c6 := bG1.cell 6 rfl
  have c7 := bG1.cell 7 rfl
  go_wp2_with fail
  refine (HM.out _ (below2 hb0 hb1)).mono ?_
  rintro e w2 ⟨pv, rfl, hpv, hb2⟩
  clear c0 c1 c2 c3 c4 c5 c6 c7 HM bG1 bG
  obtain ⟨n, rows, gain, hmf, hn8, hr8, hV⟩ := made_form v x [g0, g1, g2, g3, g4, g5, g6, g7]
  rw [hmf] at hpv
  clear hmf
  obtain ⟨rv, gv, rfl, hr, hgn⟩ := hpv
  have hr2 : RowsAt w2 rv rows := hr.keeps (keeps_frm _ _)
  have hg2 : IntsAt w2 gv gain := hgn.keeps (keeps_frm _ _)
  obtain ⟨ra, rc, rfl, -, hrm, -⟩ := id hr2
  obtain ⟨ga, gc, rfl, -, hgm, -⟩ := id hg2
  have hbw2 := below2 (below2 hb0 hb1) hb2
  clear hr hgn hb0
  go_wp2_with fail
  generalize hW3 : World.alloc w2 _ = W3
  have bP : Blk W3 w2.heap.size [.int .i64 n, .slice ra rows.length rc, .slice ga gain.length gc] 27 := by rw [← hW3]; exact Blk.new w2 _ _
  have hb3 : Below w2.heap.size w2 W3 := by rw [← hW3]; exact bal w2 _
  have hr3 := hr2.below hb3
  have hg3 := hg2.below hb3
  have hbw3 := below2 hbw2 hb3
  have p0 := bP.cell 0 rfl
  have p1 := bP.cell 1 rfl
  have p2 := bP.cell 2 rfl
  clear hW3 hr2 hg2 hbw2
  have bZ3 := ((bZ.later hb1).later hb2).later hb3
  have bE3 := ((bE.later hb1).later hb2).later hb3
  clear bZ bE
  refine (solver_any ⟨n, rows, gain⟩ _ _ _ hr3 hg3).mono ?_
  rintro e w4 ⟨sv, u, rfl, ⟨⟨pv, rfl, hpv⟩, rfl⟩, hb4⟩
  have hp4 : StepsIn w4.cell? pv (solveF ⟨n, rows, gain⟩).proof := hpv.keeps (keeps_frm _ _)
  rw [errF_in hV, solve_gain hV]
  have hok := proof_ok hV
  have hok2 := proof_ok2 hV
  generalize (solveF ⟨n, rows, gain⟩).proof = PL at *
  generalize (solveF ⟨n, rows, gain⟩).set = bs
  generalize (solveF ⟨n, rows, gain⟩).found = bf
  generalize (bestF ⟨n, rows, gain⟩).gain = bg
  obtain ⟨pa, pn, rfl, hp1, hp2, -⟩ := id hp4
  go_upto_region 6 with (fail)
  generalize hS1 : World.alloc w4 _ = S1
  have zS1 : S1.heap.size = w4.heap.size + 1 := by rw [← hS1]; simp
  have bS1 : Below w4.heap.size w4 S1 := by rw [← hS1]; exact bal w4 _
  have bS : Blk S1 (w4.heap.size) [.bool bf, .int .i64 bs, .int .i64 bg, .slice pa PL.length pn] 34 := by rw [← hS1]; exact Blk.newA w4 _ (by first | rfl | simp)
  have Sb := bS1
  have Sz := zS1
  clear hS1 zS1 bS1
  have hb3S := below2 hb4 Sb
  have hwS := below2 hbw3 hb3S
  replace hp4 := hp4.keeps (keeps_of_below Sb)
  have hr4 := hr3.below hb3S
  have hg4 := hg3.below hb3S
  have bP4 := bP.later hb3S
  have bZ4 := bZ3.later hb3S
  have bE4 := bE3.later hb3S
  clear bP bZ3 bE3 hr3 hg3 p0 p1 p2 hb3S hpv
  have s3 := bS.cell 3 rfl
  have z0 := bZ4.cell 0 rfl
  have z1 := bZ4.cell 1 rfl
  have z2 := bZ4.cell 2 rfl
  have z3 := bZ4.cell 3 rfl
  go_wp2_with fail
  refine (HZ1.out PL _ _ hp4 (by omega) hok.1).mono ?_
  rintro e wA ⟨bv, l, rfl, hsA, hbA, hlA, hlp, hokA⟩
  obtain ⟨la, lc, rfl, hl1, hl2, hlc⟩ := id hsA
  have hwA := below2 hwS hbA
  have HPA := hide ((bP4.later hbA : Blk wA _ _ _))
  have HSA := hide ((bS.later hbA : Blk wA _ _ _))
  have HEA := hide ((bE4.later hbA : Blk wA _ _ _))
  have HRA := hide (hr4.below hbA)
  have HGA := hide (hg4.below hbA)
  have HXA := hide (HEX.out.keeps (keeps_of_below hwA))
  have HWA := hide hwA
  have hl0 : l.length ≠ 0 := by have := hlp hok.2.2; omega
  have hll : l.length ≤ 8191 := by omega
  have HPK := hide (fun (W : World) => pickp_any wh l.length W hwh.1 hwh.2 (by omega) (by omega))
  obtain ⟨k, hk⟩ : ∃ k : Nat, pickF wh l.length = (k : Int) := ⟨(pickF wh l.length).toNat, by have := pickF_nonneg wh (n := l.length) (by omega); omega⟩
  have hkl : k < l.length := by have := pickF_lt wh (n := l.length) (by omega); omega
  rw [hk] at HPK
  obtain ⟨P, hP⟩ : ∃ P, pickF by_ 100 = P := ⟨_, rfl⟩
  have hP1 : 0 ≤ P := by rw [← hP]; exact pickF_nonneg by_ (by decide)
  have hP2 : P < 100 := by rw [← hP]; exact pickF_lt by_ (by decide)
  have HPB := hide (fun W => pickp_any by_ 100 W hby.1 hby.2 (by omega) (by omega))
  rw [hP] at HPB
  obtain ⟨LL, hL1, hL2, hL3, hL4, hL5, hL6⟩ := steps_list hsA
  have H1 := hide hL1
  have H2 := hide hL2
  have H3 := hide hL3
  have H4 := hide hL4
  have H5 := hide hL5
  have H6 := hide hL6
  have HOK := hide hokA
  have HSL := hide hsA
  have HLC := hide hlc
  have HV := hide hV
  clear hL1 hL2 hL3 hL4 hL5 hL6 hok hok2 hlp hlA hokA hsA hlc hV hk hP bP4 bS bE4 bZ4 hr4 hg4 hwA hwS hbA Sb Sz hp4 s3 z0 z1 z2 z3 hb1 hb2 hb3 hb4 hbw3 hwh hby HZ1 HEX hr8 hrm hgm hp1 hp2
  go_wp2_with fail
  refine (HPK.out _).mono ?_
  rintro e w' ⟨rfl, hw⟩; obtain rfl := hw.symm
  have tok : True := trivial
  go_upto_region 11 with (at_builtin; have _t := tok; generalize hX4 : World.alloc wA _ = W4; have bX4 : Below wA.heap.size wA W4 := (by rw [← hX4]; exact bal wA _); have b1 : Blk W4 wA.heap.size [] 54 := (by rw [← hX4]; exact Blk.newA wA _ rfl); clear hX4; refine app_recs infoStep rfl (by decide) Try.underlying30 rfl _ _ rfl (wA.heap.size + 0) _ [] rfl (own_none b1 (by omega)) la l.length lc LL H1.out.symm rfl H2.out H3.out (fun b hb j u hj => keep bX4 (H4.out b hb j u hj)) H5.out (by rw [H1.out]; simp; omega) (by rw [H1.out]; simp; omega) (by have := bX4.size; omega) ?_; intro v5 W5 hO5 hg5; rw [List.nil_append] at hO5; have hb5 : Below wA.heap.size wA W5 := bX4.grown hg5 bX4.size (fun k hk => by cases hk; exact Nat.le_refl _); obtain ⟨a5, c5, rfl⟩ := own_form hO5 H1.out; clear tok bX4 b1 hg5)
  obtain ⟨g, rfl⟩ : ∃ g, a5 = some ⟨g, 0, none⟩ := by
    rcases hO5.form with ⟨-, e2⟩ | ⟨g', c', cur', e1, -⟩
    · have := H1.out; rw [e2] at this; exact absurd this.symm hl0
    · injection e1 with h7 _ _; exact ⟨g', h7⟩
  obtain ⟨wv0, eL, hWk⟩ := H6.out k hkl
  have hbt : BT 0 wA W5 g c5 k l (l.getD k st0) wv0 := ⟨LL, hO5, H1.out, eL, fun i hi _ => H6.out i hi, hb5⟩
  have y3 := hbt.cell hkl
  have f3 := hbt.frozen (k * 4 + 3)
  obtain ⟨S, hS⟩ : ∃ S, l.getD k st0 = S := ⟨_, rfl⟩
  rw [hS] at hbt
  have HBS := hide (hbt.put hkl (st' := ⟨S.var, S.no, S.yes, []⟩) (wv' := .slice none 0 0) (OwnR.nil _ _ _ _) ⟨rfl, rfl, rfl⟩)
  have HS := hide hS
  obtain ⟨wa, wn, rfl, hwn1, hwn2, hwc⟩ := id hWk
  rw [hS] at hwn1 hwc hWk y3
  have hskc := HLC.out k hkl
  rw [hS] at hskc
  obtain ⟨lb, lo, wv2, rfl, t0, t1, t2, t3, hwt⟩ := hskc
  obtain ⟨wb, wbn, rfl, hwm1, hwm2, hwmc⟩ := id hwt
  have HWC := hide hwmc
  have HT3 := hide t3
  have hwlI : (S.wts.length : Int) ≤ 9223372036854775807 := by omega
  clear hbt hS eL hWk hwc hwt hwmc hO5 hb5 t0 t1 t2 t3
  go_upto_region 12 with fail
  generalize World.setCell W5 _ _ = W6 at HBS ⊢
  clear y3 f3
  go_wp2_with fail
  refine (HPB.out _).mono ?_
  rintro e w' ⟨rfl, hw⟩; obtain rfl := hw.symm
  obtain ⟨N, hN⟩ : ∃ N, 1 + P = N := ⟨_, rfl⟩
  have hN1 : 1 ≤ N := by omega
  have hN2 : N ≤ 100 := by omega
  have e1 : IntKind.i64.wrap (1 + P) = N := by rw [hN]; exact IntWalk.i64_in _ ⟨by omega, by omega⟩
  clear hN hP1 hP2
  go_wp2_with fail
  have hbA6 := HBS.out.hb
  have hokS := HOK.out S (by rw [← HS.out]; exact getD_mem l k hkl)
  have HOKS := hide hokS
  have hw2 : S.wts.length ≤ 2 := hokS.1
  clear hokS hbA6
  go_loopw [23] (fun i wr => ∃ q : Nat, q ≤ S.wts.length ∧ i = .int .i64 q ∧ (∃ a5 c6, BS 0 wA wr g c5 k l ⟨S.var, S.no, S.yes, (scaleW S.wts N).take q⟩ (.slice a5 q c6)) ∧ ∀ j, j < q → 1 ≤ (S.wts.getD j (0, 0)).2 ∧ (S.wts.getD j (0, 0)).2 * N ≤ 1000) (fun i _ => S.wts.length - (intOf i).toNat)
  case atStart => exact ⟨0, Nat.zero_le _, rfl, ⟨none, 0, HBS.out⟩, fun j hj => by omega⟩
  case round =>
    obtain ⟨q, hq, rfl, ⟨a5, c6, hB⟩, hqo⟩ := hrel
    have HB := hide hB
    have HQO := hide hqo
    have hbr := hB.hb
    have y3 := keep hbr HT3.out
    clear hB hqo
    by_cases hql : q < S.wts.length
    · have hqd : decide (q < S.wts.length) = true := by simpa using hql
      obtain ⟨b', o', e', u0, u1⟩ := HWC.out q hql
      subst e'
      replace u0 := keep hbr u0
      replace u1 := keep hbr u1
      have hp := HOKS.out.2 (S.wts.getD q (0, 0)) (getD_mem S.wts q hql)
      have HTK := hide (take_scale (n := N) hql)
      have HQN := hide (fun (h1 : 1 ≤ (S.wts.getD q (0, 0)).2) (h2 : (S.wts.getD q (0, 0)).2 * N ≤ 1000) => (show ∀ j, j < q + 1 → 1 ≤ (S.wts.getD j (0, 0)).2 ∧ (S.wts.getD j (0, 0)).2 * N ≤ 1000 from fun j hj => by
        by_cases e : j = q
        · subst e; exact ⟨h1, h2⟩
        · exact HQO.out j (by omega)))
      generalize S.wts.getD q (0, 0) = rt at hp HTK HQN u0 u1
      obtain ⟨r, t⟩ := rt
      have hm := mul_range (show -1 ≤ t from hp.1) (show t ≤ 1003 from hp.2) hN1 hN2
      have e2 : IntKind.i64.wrap (t * N) = t * N := IntWalk.i64_in _ ⟨by omega, by omega⟩
      clear hp
      go_upto_region 17 with fail
      generalize hA1 : World.alloc wr _ = A1
      have zA1 : A1.heap.size = wr.heap.size + 1 := by rw [← hA1]; simp
      have bA1 : Below wr.heap.size wr A1 := by rw [← hA1]; exact bal wr _
      have bA : Blk A1 (wr.heap.size) [.int .i64 r, .int .i64 t] 56 := by rw [← hA1]; exact Blk.newA wr _ (by first | rfl | simp)
      have Ab := bA1
      have Az := zA1
      clear hA1 zA1 bA1
      have HBA := hide (HB.out.later Ab)
      have hbrA := below2 hbr Ab
      have HLT := hide (fun (b : Nat) (h : (Value.slice a5 q c6).ownBlock = some b) => (by
        rcases HB.out.wts.form with ⟨e, -⟩ | ⟨g', c', cur', e, -, e3, -⟩
        · rw [e] at h; cases h
        · rw [e] at h; cases h; exact (Array.getElem?_eq_some_iff.1 e3).1 : b < wr.heap.size))
      have HGL := hide (show g < wr.heap.size from lt_of_cell (HB.out.cell hkl 3 (by omega) rfl))
      have u2 := bA.cell 0 rfl
      have u3 := bA.cell 1 rfl
      clear HB u0 u1 Az Ab
      by_cases ht1 : t < 1
      · have d1 : decide (t < 1) = true := decide_eq_true ht1
        go_wp2_with fail
        go_ret
        exact ⟨rfl, below2 HWA.out hbrA⟩
      by_cases ht2 : t * N > 1000
      · have d1 : decide (t < 1) = false := decide_eq_false ht1
        have d2 : decide (t * N > 1000) = true := decide_eq_true ht2
        go_wp2_with fail
        go_ret
        exact ⟨rfl, below2 HWA.out hbrA⟩
      have d1 : decide (t < 1) = false := decide_eq_false ht1
      have d2 : decide (t * N > 1000) = false := decide_eq_false ht2
      go_upto_region 19 with fail
      obtain ⟨Si, hSi⟩ : ∃ Si : StepD, Si = ⟨S.var, S.no, S.yes, (scaleW S.wts N).take q⟩ := ⟨_, rfl⟩
      have hSl : Si.wts.length = q := by rw [hSi]; show ((scaleW S.wts N).take q).length = q; rw [List.length_take, scale_len]; omega
      rw [← hSi] at HBA
      have HSI : Hid (⟨S.var, S.no, S.yes, (scaleW S.wts N).take (q + 1)⟩ = (⟨Si.var, Si.no, Si.yes, Si.wts ++ [(r, t * N)]⟩ : StepD)) := hide (by rw [HTK.out, hSi])
      have hwl2 : (Si.wts.map wtCells).length ≤ 1000 := by rw [List.length_map, hSl]; omega
      have hSq : (Si.wts ++ [(r, t * N)]).length = q + 1 := by rw [List.length_append, hSl]; rfl
      have hsz : wA.heap.size + 0 ≤ A1.heap.size := hbrA.size
      have hsz2 : wr.heap.size < A1.heap.size := bA.lt
      have HQ1 := hide (HQN.out (by show 1 ≤ t; omega) (by show t * N ≤ 1000; omega))
      have HSQ := hide hSq
      have HSL2 := hide hSl
      have HSZ2 := hide hsz2
      clear hSi HTK HQN hm hbr hsz2 hSq hSl u2 u3 y3 ht1 ht2 HQO
      refine wp_region_inv [some 91, some 92, some 93, some 94, some 95, some 96, some 97, some 98, some 99, some 100, some 101, some 102, some 103, some 104, some 105, some 106, some 107, some 108, none] (fun L vs W => match vs with | [x0, x1, x2, x3, x4, x5, x6, x7, x8, x9, x10, x11, x12, x13, x14, x15, x16, x17, x18] => (Below wA.heap.size A1 W ∧ (L 18 = false → BT 0 wA W g c5 k l Si (.slice a5 q c6)) ∧ (L 15 = false → OwnR W (wA.heap.size + 0) 56 2 (.slice a5 q c6) (Si.wts.map wtCells)) ∧ Blk W wr.heap.size [.int .i64 r, .int .i64 t] 56) ∧ (L 0 = true → x0 = .slice (some ⟨g, 0, none⟩) l.length c5) ∧ (L 1 = true → x1 = .int .i64 k) ∧ (L 2 = true → x2 = .slice (some ⟨g, 0, none⟩) l.length c5) ∧ (L 3 = true → x3 = .int .i64 k) ∧ (L 4 = true → x4 = .pointer (some ⟨g, k * 4, none⟩)) ∧ (L 5 = true → x5 = .pointer (some ⟨g, k * 4 + 3, none⟩)) ∧ (L 6 = true → x6 = .slice a5 q c6) ∧ (L 7 = true → x7 = .pointer (some ⟨wr.heap.size, 0, none⟩)) ∧ (L 8 = true → x8 = .int .i64 r) ∧ (L 9 = true → x9 = .pointer (some ⟨wr.heap.size, 1, none⟩)) ∧ (L 10 = true → x10 = .int .i64 t) ∧ (L 11 = true → x11 = .int .i64 N) ∧ (L 12 = true → x12 = .int .i64 (t * N)) ∧ (L 13 = true → x13 = .agg #[.int .i64 r, .int .i64 (t * N)]) ∧ (L 14 = true → L 15 = false → ∃ b8 : Nat, x14 = .slice (some ⟨b8, 0, none⟩) 1 1 ∧ Blk W b8 (wtCells (r, t * N)) 56) ∧ (L 15 = true → (L 6 = true ∧ L 14 = true) ∧ (L 18 = false → OwnR W (wA.heap.size + 0) 56 2 x15 (Si.wts.map wtCells ++ [wtCells (r, t * N)]))) ∧ (L 16 = true → x16 = .pointer (some ⟨g, k * 4, none⟩)) ∧ (L 17 = true → x17 = .pointer (some ⟨g, k * 4 + 3, none⟩)) ∧ (L 18 = true → (L 6 = true ∧ L 15 = true) ∧ ∃ wv, BS 0 wA W g c5 k l ⟨Si.var, Si.no, Si.yes, Si.wts ++ [(r, t * N)]⟩ wv) | _ => False) [_, _, _, _, _, _, _, _, _, _, _, _, _, _, _, _, _, _, undef] (by kernel_rfl) (by kernel_rfl) rfl (by simp only [puts, Act.put, List.setIfInBounds_toArray, List.set_cons_zero, List.set_cons_succ] <;> rfl) ?_ ?_ ?_
      · exact ⟨⟨(Below.refl _ _).drew, fun _ => HBA.out.drew.bt, fun _ => HBA.out.drew.wts, bA⟩, (fun h => by cases h), (fun h => by cases h), (fun h => by cases h), (fun h => by cases h), (fun h => by cases h), (fun h => by cases h), (fun h => by cases h), (fun h => by cases h), (fun h => by cases h), (fun h => by cases h), (fun h => by cases h), (fun h => by cases h), (fun h => by cases h), (fun h => by cases h), (fun h => by cases h), (fun h => by cases h), (fun h => by cases h), (fun h => by cases h), (fun h => by cases h)⟩
      · refine ⟨?_, ?_, ?_, ?_, ?_, ?_, ?_, ?_, ?_, ?_, ?_, ?_, ?_, ?_, ?_, ?_, ?_, ?_, ?_, trivial⟩
        · intro L vs W hlen hL hD hI K hK
          obtain ⟨x0, x1, x2, x3, x4, x5, x6, x7, x8, x9, x10, x11, x12, x13, x14, x15, x16, x17, x18, rfl⟩ := len19 hlen
          have hG := hI.1
          replace hI := hI.2
          have f0 := hide hI.1
          replace hI := hI.2
          have f1 := hide hI.1
          replace hI := hI.2
          have f2 := hide hI.1
          replace hI := hI.2
          have f3 := hide hI.1
          replace hI := hI.2
          have f4 := hide hI.1
          replace hI := hI.2
          have f5 := hide hI.1
          replace hI := hI.2
          have f6 := hide hI.1
          replace hI := hI.2
          have f7 := hide hI.1
          replace hI := hI.2
          have f8 := hide hI.1
          replace hI := hI.2
          have f9 := hide hI.1
          replace hI := hI.2
          have f10 := hide hI.1
          replace hI := hI.2
          have f11 := hide hI.1
          replace hI := hI.2
          have f12 := hide hI.1
          replace hI := hI.2
          have f13 := hide hI.1
          replace hI := hI.2
          have f14 := hide hI.1
          replace hI := hI.2
          have f15 := hide hI.1
          replace hI := hI.2
          have f16 := hide hI.1
          replace hI := hI.2
          have f17 := hide hI.1
          replace hI := hI.2
          have f18 := hide hI
          clear hI
          have hGb := hG.1
          have hs1 := Nat.le_trans hsz hGb.size
          have u2 := hG.2.2.2.cell 0 rfl
          have u3 := hG.2.2.2.cell 1 rfl
          try simp only [puts, Act.put, List.setIfInBounds_toArray, List.set_cons_zero, List.set_cons_succ]
          try go_simp
          exact hK.out _ _ _ (by simp only [puts, Act.put, List.setIfInBounds_toArray, List.set_cons_zero, List.set_cons_succ] <;> rfl) ⟨hG, (fun _ => rfl), (fun h => f1.out h), (fun h => f2.out h), (fun h => f3.out h), (fun h => f4.out h), (fun h => f5.out h), (fun h => f6.out h), (fun h => f7.out h), (fun h => f8.out h), (fun h => f9.out h), (fun h => f10.out h), (fun h => f11.out h), (fun h => f12.out h), (fun h => f13.out h), (fun h => f14.out h), (fun h => f15.out h), (fun h => f16.out h), (fun h => f17.out h), (fun h => f18.out h)⟩
        · intro L vs W hlen hL hD hI K hK
          obtain ⟨x0, x1, x2, x3, x4, x5, x6, x7, x8, x9, x10, x11, x12, x13, x14, x15, x16, x17, x18, rfl⟩ := len19 hlen
          have hG := hI.1
          replace hI := hI.2
          have f0 := hide hI.1
          replace hI := hI.2
          have f1 := hide hI.1
          replace hI := hI.2
          have f2 := hide hI.1
          replace hI := hI.2
          have f3 := hide hI.1
          replace hI := hI.2
          have f4 := hide hI.1
          replace hI := hI.2
          have f5 := hide hI.1
          replace hI := hI.2
          have f6 := hide hI.1
          replace hI := hI.2
          have f7 := hide hI.1
          replace hI := hI.2
          have f8 := hide hI.1
          replace hI := hI.2
          have f9 := hide hI.1
          replace hI := hI.2
          have f10 := hide hI.1
          replace hI := hI.2
          have f11 := hide hI.1
          replace hI := hI.2
          have f12 := hide hI.1
          replace hI := hI.2
          have f13 := hide hI.1
          replace hI := hI.2
          have f14 := hide hI.1
          replace hI := hI.2
          have f15 := hide hI.1
          replace hI := hI.2
          have f16 := hide hI.1
          replace hI := hI.2
          have f17 := hide hI.1
          replace hI := hI.2
          have f18 := hide hI
          clear hI
          have hGb := hG.1
          have hs1 := Nat.le_trans hsz hGb.size
          have u2 := hG.2.2.2.cell 0 rfl
          have u3 := hG.2.2.2.cell 1 rfl
          try simp only [puts, Act.put, List.setIfInBounds_toArray, List.set_cons_zero, List.set_cons_succ]
          try go_simp
          exact hK.out _ _ _ (by simp only [puts, Act.put, List.setIfInBounds_toArray, List.set_cons_zero, List.set_cons_succ] <;> rfl) ⟨hG, (fun h => f0.out h), (fun _ => rfl), (fun h => f2.out h), (fun h => f3.out h), (fun h => f4.out h), (fun h => f5.out h), (fun h => f6.out h), (fun h => f7.out h), (fun h => f8.out h), (fun h => f9.out h), (fun h => f10.out h), (fun h => f11.out h), (fun h => f12.out h), (fun h => f13.out h), (fun h => f14.out h), (fun h => f15.out h), (fun h => f16.out h), (fun h => f17.out h), (fun h => f18.out h)⟩
        · intro L vs W hlen hL hD hI K hK
          obtain ⟨x0, x1, x2, x3, x4, x5, x6, x7, x8, x9, x10, x11, x12, x13, x14, x15, x16, x17, x18, rfl⟩ := len19 hlen
          have hG := hI.1
          replace hI := hI.2
          have f0 := hide hI.1
          replace hI := hI.2
          have f1 := hide hI.1
          replace hI := hI.2
          have f2 := hide hI.1
          replace hI := hI.2
          have f3 := hide hI.1
          replace hI := hI.2
          have f4 := hide hI.1
          replace hI := hI.2
          have f5 := hide hI.1
          replace hI := hI.2
          have f6 := hide hI.1
          replace hI := hI.2
          have f7 := hide hI.1
          replace hI := hI.2
          have f8 := hide hI.1
          replace hI := hI.2
          have f9 := hide hI.1
          replace hI := hI.2
          have f10 := hide hI.1
          replace hI := hI.2
          have f11 := hide hI.1
          replace hI := hI.2
          have f12 := hide hI.1
          replace hI := hI.2
          have f13 := hide hI.1
          replace hI := hI.2
          have f14 := hide hI.1
          replace hI := hI.2
          have f15 := hide hI.1
          replace hI := hI.2
          have f16 := hide hI.1
          replace hI := hI.2
          have f17 := hide hI.1
          replace hI := hI.2
          have f18 := hide hI
          clear hI
          have hGb := hG.1
          have hs1 := Nat.le_trans hsz hGb.size
          have u2 := hG.2.2.2.cell 0 rfl
          have u3 := hG.2.2.2.cell 1 rfl
          try simp only [puts, Act.put, List.setIfInBounds_toArray, List.set_cons_zero, List.set_cons_succ]
          try go_simp
          exact hK.out _ _ _ (by simp only [puts, Act.put, List.setIfInBounds_toArray, List.set_cons_zero, List.set_cons_succ] <;> rfl) ⟨hG, (fun h => f0.out h), (fun h => f1.out h), (fun _ => rfl), (fun h => f3.out h), (fun h => f4.out h), (fun h => f5.out h), (fun h => f6.out h), (fun h => f7.out h), (fun h => f8.out h), (fun h => f9.out h), (fun h => f10.out h), (fun h => f11.out h), (fun h => f12.out h), (fun h => f13.out h), (fun h => f14.out h), (fun h => f15.out h), (fun h => f16.out h), (fun h => f17.out h), (fun h => f18.out h)⟩
        · intro L vs W hlen hL hD hI K hK
          obtain ⟨x0, x1, x2, x3, x4, x5, x6, x7, x8, x9, x10, x11, x12, x13, x14, x15, x16, x17, x18, rfl⟩ := len19 hlen
          have hG := hI.1
          replace hI := hI.2
          have f0 := hide hI.1
          replace hI := hI.2
          have f1 := hide hI.1
          replace hI := hI.2
          have f2 := hide hI.1
          replace hI := hI.2
          have f3 := hide hI.1
          replace hI := hI.2
          have f4 := hide hI.1
          replace hI := hI.2
          have f5 := hide hI.1
          replace hI := hI.2
          have f6 := hide hI.1
          replace hI := hI.2
          have f7 := hide hI.1
          replace hI := hI.2
          have f8 := hide hI.1
          replace hI := hI.2
          have f9 := hide hI.1
          replace hI := hI.2
          have f10 := hide hI.1
          replace hI := hI.2
          have f11 := hide hI.1
          replace hI := hI.2
          have f12 := hide hI.1
          replace hI := hI.2
          have f13 := hide hI.1
          replace hI := hI.2
          have f14 := hide hI.1
          replace hI := hI.2
          have f15 := hide hI.1
          replace hI := hI.2
          have f16 := hide hI.1
          replace hI := hI.2
          have f17 := hide hI.1
          replace hI := hI.2
          have f18 := hide hI
          clear hI
          have hGb := hG.1
          have hs1 := Nat.le_trans hsz hGb.size
          have u2 := hG.2.2.2.cell 0 rfl
          have u3 := hG.2.2.2.cell 1 rfl
          try simp only [puts, Act.put, List.setIfInBounds_toArray, List.set_cons_zero, List.set_cons_succ]
          try go_simp
          exact hK.out _ _ _ (by simp only [puts, Act.put, List.setIfInBounds_toArray, List.set_cons_zero, List.set_cons_succ] <;> rfl) ⟨hG, (fun h => f0.out h), (fun h => f1.out h), (fun h => f2.out h), (fun _ => rfl), (fun h => f4.out h), (fun h => f5.out h), (fun h => f6.out h), (fun h => f7.out h), (fun h => f8.out h), (fun h => f9.out h), (fun h => f10.out h), (fun h => f11.out h), (fun h => f12.out h), (fun h => f13.out h), (fun h => f14.out h), (fun h => f15.out h), (fun h => f16.out h), (fun h => f17.out h), (fun h => f18.out h)⟩
        · intro L vs W hlen hL hD hI K hK
          obtain ⟨x0, x1, x2, x3, x4, x5, x6, x7, x8, x9, x10, x11, x12, x13, x14, x15, x16, x17, x18, rfl⟩ := len19 hlen
          have hG := hI.1
          replace hI := hI.2
          have f0 := hide hI.1
          replace hI := hI.2
          have f1 := hide hI.1
          replace hI := hI.2
          have f2 := hide hI.1
          replace hI := hI.2
          have f3 := hide hI.1
          replace hI := hI.2
          have f4 := hide hI.1
          replace hI := hI.2
          have f5 := hide hI.1
          replace hI := hI.2
          have f6 := hide hI.1
          replace hI := hI.2
          have f7 := hide hI.1
          replace hI := hI.2
          have f8 := hide hI.1
          replace hI := hI.2
          have f9 := hide hI.1
          replace hI := hI.2
          have f10 := hide hI.1
          replace hI := hI.2
          have f11 := hide hI.1
          replace hI := hI.2
          have f12 := hide hI.1
          replace hI := hI.2
          have f13 := hide hI.1
          replace hI := hI.2
          have f14 := hide hI.1
          replace hI := hI.2
          have f15 := hide hI.1
          replace hI := hI.2
          have f16 := hide hI.1
          replace hI := hI.2
          have f17 := hide hI.1
          replace hI := hI.2
          have f18 := hide hI
          clear hI
          have hGb := hG.1
          have hs1 := Nat.le_trans hsz hGb.size
          have u2 := hG.2.2.2.cell 0 rfl
          have u3 := hG.2.2.2.cell 1 rfl
          obtain rfl := f2.out (hD.on 2 (by kernel_rfl))
          obtain rfl := f3.out (hD.on 3 (by kernel_rfl))
          try simp only [puts, Act.put, List.setIfInBounds_toArray, List.set_cons_zero, List.set_cons_succ]
          try go_simp
          exact hK.out _ _ _ (by simp only [puts, Act.put, List.setIfInBounds_toArray, List.set_cons_zero, List.set_cons_succ] <;> rfl) ⟨hG, (fun h => f0.out h), (fun h => f1.out h), (fun h => f2.out h), (fun h => f3.out h), (fun _ => rfl), (fun h => f5.out h), (fun h => f6.out h), (fun h => f7.out h), (fun h => f8.out h), (fun h => f9.out h), (fun h => f10.out h), (fun h => f11.out h), (fun h => f12.out h), (fun h => f13.out h), (fun h => f14.out h), (fun h => f15.out h), (fun h => f16.out h), (fun h => f17.out h), (fun h => f18.out h)⟩
        · intro L vs W hlen hL hD hI K hK
          obtain ⟨x0, x1, x2, x3, x4, x5, x6, x7, x8, x9, x10, x11, x12, x13, x14, x15, x16, x17, x18, rfl⟩ := len19 hlen
          have hG := hI.1
          replace hI := hI.2
          have f0 := hide hI.1
          replace hI := hI.2
          have f1 := hide hI.1
          replace hI := hI.2
          have f2 := hide hI.1
          replace hI := hI.2
          have f3 := hide hI.1
          replace hI := hI.2
          have f4 := hide hI.1
          replace hI := hI.2
          have f5 := hide hI.1
          replace hI := hI.2
          have f6 := hide hI.1
          replace hI := hI.2
          have f7 := hide hI.1
          replace hI := hI.2
          have f8 := hide hI.1
          replace hI := hI.2
          have f9 := hide hI.1
          replace hI := hI.2
          have f10 := hide hI.1
          replace hI := hI.2
          have f11 := hide hI.1
          replace hI := hI.2
          have f12 := hide hI.1
          replace hI := hI.2
          have f13 := hide hI.1
          replace hI := hI.2
          have f14 := hide hI.1
          replace hI := hI.2
          have f15 := hide hI.1
          replace hI := hI.2
          have f16 := hide hI.1
          replace hI := hI.2
          have f17 := hide hI.1
          replace hI := hI.2
          have f18 := hide hI
          clear hI
          have hGb := hG.1
          have hs1 := Nat.le_trans hsz hGb.size
          have u2 := hG.2.2.2.cell 0 rfl
          have u3 := hG.2.2.2.cell 1 rfl
          obtain rfl := f4.out (hD.on 4 (by kernel_rfl))
          try simp only [puts, Act.put, List.setIfInBounds_toArray, List.set_cons_zero, List.set_cons_succ]
          try go_simp
          exact hK.out _ _ _ (by simp only [puts, Act.put, List.setIfInBounds_toArray, List.set_cons_zero, List.set_cons_succ] <;> rfl) ⟨hG, (fun h => f0.out h), (fun h => f1.out h), (fun h => f2.out h), (fun h => f3.out h), (fun h => f4.out h), (fun _ => rfl), (fun h => f6.out h), (fun h => f7.out h), (fun h => f8.out h), (fun h => f9.out h), (fun h => f10.out h), (fun h => f11.out h), (fun h => f12.out h), (fun h => f13.out h), (fun h => f14.out h), (fun h => f15.out h), (fun h => f16.out h), (fun h => f17.out h), (fun h => f18.out h)⟩
        · intro L vs W hlen hL hD hI K hK
          obtain ⟨x0, x1, x2, x3, x4, x5, x6, x7, x8, x9, x10, x11, x12, x13, x14, x15, x16, x17, x18, rfl⟩ := len19 hlen
          have hG := hI.1
          replace hI := hI.2
          have f0 := hide hI.1
          replace hI := hI.2
          have f1 := hide hI.1
          replace hI := hI.2
          have f2 := hide hI.1
          replace hI := hI.2
          have f3 := hide hI.1
          replace hI := hI.2
          have f4 := hide hI.1
          replace hI := hI.2
          have f5 := hide hI.1
          replace hI := hI.2
          have f6 := hide hI.1
          replace hI := hI.2
          have f7 := hide hI.1
          replace hI := hI.2
          have f8 := hide hI.1
          replace hI := hI.2
          have f9 := hide hI.1
          replace hI := hI.2
          have f10 := hide hI.1
          replace hI := hI.2
          have f11 := hide hI.1
          replace hI := hI.2
          have f12 := hide hI.1
          replace hI := hI.2
          have f13 := hide hI.1
          replace hI := hI.2
          have f14 := hide hI.1
          replace hI := hI.2
          have f15 := hide hI.1
          replace hI := hI.2
          have f16 := hide hI.1
          replace hI := hI.2
          have f17 := hide hI.1
          replace hI := hI.2
          have f18 := hide hI
          clear hI
          have hGb := hG.1
          have hs1 := Nat.le_trans hsz hGb.size
          have u2 := hG.2.2.2.cell 0 rfl
          have u3 := hG.2.2.2.cell 1 rfl
          obtain rfl := f5.out (hD.on 5 (by kernel_rfl))
          try simp only [puts, Act.put, List.setIfInBounds_toArray, List.set_cons_zero, List.set_cons_succ]
          have h18 : L 18 = false := Bool.eq_false_iff.2 (fun h => absurd ((f18.out h).1.1.symm.trans hL) (by decide))
          have y3 := (hG.2.1 h18).cell hkl
          go_simp
          exact hK.out _ _ _ (by simp only [puts, Act.put, List.setIfInBounds_toArray, List.set_cons_zero, List.set_cons_succ] <;> rfl) ⟨hG, (fun h => f0.out h), (fun h => f1.out h), (fun h => f2.out h), (fun h => f3.out h), (fun h => f4.out h), (fun h => f5.out h), (fun _ => rfl), (fun h => f7.out h), (fun h => f8.out h), (fun h => f9.out h), (fun h => f10.out h), (fun h => f11.out h), (fun h => f12.out h), (fun h => f13.out h), (fun h => f14.out h), (fun h => (fun h => ⟨⟨rfl, h.1.2⟩, h.2⟩) (f15.out h)), (fun h => f16.out h), (fun h => f17.out h), (fun h => (fun h => ⟨⟨rfl, h.1.2⟩, h.2⟩) (f18.out h))⟩
        · intro L vs W hlen hL hD hI K hK
          obtain ⟨x0, x1, x2, x3, x4, x5, x6, x7, x8, x9, x10, x11, x12, x13, x14, x15, x16, x17, x18, rfl⟩ := len19 hlen
          have hG := hI.1
          replace hI := hI.2
          have f0 := hide hI.1
          replace hI := hI.2
          have f1 := hide hI.1
          replace hI := hI.2
          have f2 := hide hI.1
          replace hI := hI.2
          have f3 := hide hI.1
          replace hI := hI.2
          have f4 := hide hI.1
          replace hI := hI.2
          have f5 := hide hI.1
          replace hI := hI.2
          have f6 := hide hI.1
          replace hI := hI.2
          have f7 := hide hI.1
          replace hI := hI.2
          have f8 := hide hI.1
          replace hI := hI.2
          have f9 := hide hI.1
          replace hI := hI.2
          have f10 := hide hI.1
          replace hI := hI.2
          have f11 := hide hI.1
          replace hI := hI.2
          have f12 := hide hI.1
          replace hI := hI.2
          have f13 := hide hI.1
          replace hI := hI.2
          have f14 := hide hI.1
          replace hI := hI.2
          have f15 := hide hI.1
          replace hI := hI.2
          have f16 := hide hI.1
          replace hI := hI.2
          have f17 := hide hI.1
          replace hI := hI.2
          have f18 := hide hI
          clear hI
          have hGb := hG.1
          have hs1 := Nat.le_trans hsz hGb.size
          have u2 := hG.2.2.2.cell 0 rfl
          have u3 := hG.2.2.2.cell 1 rfl
          try simp only [puts, Act.put, List.setIfInBounds_toArray, List.set_cons_zero, List.set_cons_succ]
          try go_simp
          exact hK.out _ _ _ (by simp only [puts, Act.put, List.setIfInBounds_toArray, List.set_cons_zero, List.set_cons_succ] <;> rfl) ⟨hG, (fun h => f0.out h), (fun h => f1.out h), (fun h => f2.out h), (fun h => f3.out h), (fun h => f4.out h), (fun h => f5.out h), (fun h => f6.out h), (fun _ => rfl), (fun h => f8.out h), (fun h => f9.out h), (fun h => f10.out h), (fun h => f11.out h), (fun h => f12.out h), (fun h => f13.out h), (fun h => f14.out h), (fun h => f15.out h), (fun h => f16.out h), (fun h => f17.out h), (fun h => f18.out h)⟩
        · intro L vs W hlen hL hD hI K hK
          obtain ⟨x0, x1, x2, x3, x4, x5, x6, x7, x8, x9, x10, x11, x12, x13, x14, x15, x16, x17, x18, rfl⟩ := len19 hlen
          have hG := hI.1
          replace hI := hI.2
          have f0 := hide hI.1
          replace hI := hI.2
          have f1 := hide hI.1
          replace hI := hI.2
          have f2 := hide hI.1
          replace hI := hI.2
          have f3 := hide hI.1
          replace hI := hI.2
          have f4 := hide hI.1
          replace hI := hI.2
          have f5 := hide hI.1
          replace hI := hI.2
          have f6 := hide hI.1
          replace hI := hI.2
          have f7 := hide hI.1
          replace hI := hI.2
          have f8 := hide hI.1
          replace hI := hI.2
          have f9 := hide hI.1
          replace hI := hI.2
          have f10 := hide hI.1
          replace hI := hI.2
          have f11 := hide hI.1
          replace hI := hI.2
          have f12 := hide hI.1
          replace hI := hI.2
          have f13 := hide hI.1
          replace hI := hI.2
          have f14 := hide hI.1
          replace hI := hI.2
          have f15 := hide hI.1
          replace hI := hI.2
          have f16 := hide hI.1
          replace hI := hI.2
          have f17 := hide hI.1
          replace hI := hI.2
          have f18 := hide hI
          clear hI
          have hGb := hG.1
          have hs1 := Nat.le_trans hsz hGb.size
          have u2 := hG.2.2.2.cell 0 rfl
          have u3 := hG.2.2.2.cell 1 rfl
          obtain rfl := f7.out (hD.on 7 (by kernel_rfl))
          try simp only [puts, Act.put, List.setIfInBounds_toArray, List.set_cons_zero, List.set_cons_succ]
          try go_simp
          exact hK.out _ _ _ (by simp only [puts, Act.put, List.setIfInBounds_toArray, List.set_cons_zero, List.set_cons_succ] <;> rfl) ⟨hG, (fun h => f0.out h), (fun h => f1.out h), (fun h => f2.out h), (fun h => f3.out h), (fun h => f4.out h), (fun h => f5.out h), (fun h => f6.out h), (fun h => f7.out h), (fun _ => rfl), (fun h => f9.out h), (fun h => f10.out h), (fun h => f11.out h), (fun h => f12.out h), (fun h => f13.out h), (fun h => f14.out h), (fun h => f15.out h), (fun h => f16.out h), (fun h => f17.out h), (fun h => f18.out h)⟩
        · intro L vs W hlen hL hD hI K hK
          obtain ⟨x0, x1, x2, x3, x4, x5, x6, x7, x8, x9, x10, x11, x12, x13, x14, x15, x16, x17, x18, rfl⟩ := len19 hlen
          have hG := hI.1
          replace hI := hI.2
          have f0 := hide hI.1
          replace hI := hI.2
          have f1 := hide hI.1
          replace hI := hI.2
          have f2 := hide hI.1
          replace hI := hI.2
          have f3 := hide hI.1
          replace hI := hI.2
          have f4 := hide hI.1
          replace hI := hI.2
          have f5 := hide hI.1
          replace hI := hI.2
          have f6 := hide hI.1
          replace hI := hI.2
          have f7 := hide hI.1
          replace hI := hI.2
          have f8 := hide hI.1
          replace hI := hI.2
          have f9 := hide hI.1
          replace hI := hI.2
          have f10 := hide hI.1
          replace hI := hI.2
          have f11 := hide hI.1
          replace hI := hI.2
          have f12 := hide hI.1
          replace hI := hI.2
          have f13 := hide hI.1
          replace hI := hI.2
          have f14 := hide hI.1
          replace hI := hI.2
          have f15 := hide hI.1
          replace hI := hI.2
          have f16 := hide hI.1
          replace hI := hI.2
          have f17 := hide hI.1
          replace hI := hI.2
          have f18 := hide hI
          clear hI
          have hGb := hG.1
          have hs1 := Nat.le_trans hsz hGb.size
          have u2 := hG.2.2.2.cell 0 rfl
          have u3 := hG.2.2.2.cell 1 rfl
          try simp only [puts, Act.put, List.setIfInBounds_toArray, List.set_cons_zero, List.set_cons_succ]
          try go_simp
          exact hK.out _ _ _ (by simp only [puts, Act.put, List.setIfInBounds_toArray, List.set_cons_zero, List.set_cons_succ] <;> rfl) ⟨hG, (fun h => f0.out h), (fun h => f1.out h), (fun h => f2.out h), (fun h => f3.out h), (fun h => f4.out h), (fun h => f5.out h), (fun h => f6.out h), (fun h => f7.out h), (fun h => f8.out h), (fun _ => rfl), (fun h => f10.out h), (fun h => f11.out h), (fun h => f12.out h), (fun h => f13.out h), (fun h => f14.out h), (fun h => f15.out h), (fun h => f16.out h), (fun h => f17.out h), (fun h => f18.out h)⟩
        · intro L vs W hlen hL hD hI K hK
          obtain ⟨x0, x1, x2, x3, x4, x5, x6, x7, x8, x9, x10, x11, x12, x13, x14, x15, x16, x17, x18, rfl⟩ := len19 hlen
          have hG := hI.1
          replace hI := hI.2
          have f0 := hide hI.1
          replace hI := hI.2
          have f1 := hide hI.1
          replace hI := hI.2
          have f2 := hide hI.1
          replace hI := hI.2
          have f3 := hide hI.1
          replace hI := hI.2
          have f4 := hide hI.1
          replace hI := hI.2
          have f5 := hide hI.1
          replace hI := hI.2
          have f6 := hide hI.1
          replace hI := hI.2
          have f7 := hide hI.1
          replace hI := hI.2
          have f8 := hide hI.1
          replace hI := hI.2
          have f9 := hide hI.1
          replace hI := hI.2
          have f10 := hide hI.1
          replace hI := hI.2
          have f11 := hide hI.1
          replace hI := hI.2
          have f12 := hide hI.1
          replace hI := hI.2
          have f13 := hide hI.1
          replace hI := hI.2
          have f14 := hide hI.1
          replace hI := hI.2
          have f15 := hide hI.1
          replace hI := hI.2
          have f16 := hide hI.1
          replace hI := hI.2
          have f17 := hide hI.1
          replace hI := hI.2
          have f18 := hide hI
          clear hI
          have hGb := hG.1
          have hs1 := Nat.le_trans hsz hGb.size
          have u2 := hG.2.2.2.cell 0 rfl
          have u3 := hG.2.2.2.cell 1 rfl
          obtain rfl := f9.out (hD.on 9 (by kernel_rfl))
          try simp only [puts, Act.put, List.setIfInBounds_toArray, List.set_cons_zero, List.set_cons_succ]
          try go_simp
          exact hK.out _ _ _ (by simp only [puts, Act.put, List.setIfInBounds_toArray, List.set_cons_zero, List.set_cons_succ] <;> rfl) ⟨hG, (fun h => f0.out h), (fun h => f1.out h), (fun h => f2.out h), (fun h => f3.out h), (fun h => f4.out h), (fun h => f5.out h), (fun h => f6.out h), (fun h => f7.out h), (fun h => f8.out h), (fun h => f9.out h), (fun _ => rfl), (fun h => f11.out h), (fun h => f12.out h), (fun h => f13.out h), (fun h => f14.out h), (fun h => f15.out h), (fun h => f16.out h), (fun h => f17.out h), (fun h => f18.out h)⟩
        · intro L vs W hlen hL hD hI K hK
          obtain ⟨x0, x1, x2, x3, x4, x5, x6, x7, x8, x9, x10, x11, x12, x13, x14, x15, x16, x17, x18, rfl⟩ := len19 hlen
          have hG := hI.1
          replace hI := hI.2
          have f0 := hide hI.1
          replace hI := hI.2
          have f1 := hide hI.1
          replace hI := hI.2
          have f2 := hide hI.1
          replace hI := hI.2
          have f3 := hide hI.1
          replace hI := hI.2
          have f4 := hide hI.1
          replace hI := hI.2
          have f5 := hide hI.1
          replace hI := hI.2
          have f6 := hide hI.1
          replace hI := hI.2
          have f7 := hide hI.1
          replace hI := hI.2
          have f8 := hide hI.1
          replace hI := hI.2
          have f9 := hide hI.1
          replace hI := hI.2
          have f10 := hide hI.1
          replace hI := hI.2
          have f11 := hide hI.1
          replace hI := hI.2
          have f12 := hide hI.1
          replace hI := hI.2
          have f13 := hide hI.1
          replace hI := hI.2
          have f14 := hide hI.1
          replace hI := hI.2
          have f15 := hide hI.1
          replace hI := hI.2
          have f16 := hide hI.1
          replace hI := hI.2
          have f17 := hide hI.1
          replace hI := hI.2
          have f18 := hide hI
          clear hI
          have hGb := hG.1
          have hs1 := Nat.le_trans hsz hGb.size
          have u2 := hG.2.2.2.cell 0 rfl
          have u3 := hG.2.2.2.cell 1 rfl
          try simp only [puts, Act.put, List.setIfInBounds_toArray, List.set_cons_zero, List.set_cons_succ]
          try go_simp
          exact hK.out _ _ _ (by simp only [puts, Act.put, List.setIfInBounds_toArray, List.set_cons_zero, List.set_cons_succ] <;> rfl) ⟨hG, (fun h => f0.out h), (fun h => f1.out h), (fun h => f2.out h), (fun h => f3.out h), (fun h => f4.out h), (fun h => f5.out h), (fun h => f6.out h), (fun h => f7.out h), (fun h => f8.out h), (fun h => f9.out h), (fun h => f10.out h), (fun _ => rfl), (fun h => f12.out h), (fun h => f13.out h), (fun h => f14.out h), (fun h => f15.out h), (fun h => f16.out h), (fun h => f17.out h), (fun h => f18.out h)⟩
        · intro L vs W hlen hL hD hI K hK
          obtain ⟨x0, x1, x2, x3, x4, x5, x6, x7, x8, x9, x10, x11, x12, x13, x14, x15, x16, x17, x18, rfl⟩ := len19 hlen
          have hG := hI.1
          replace hI := hI.2
          have f0 := hide hI.1
          replace hI := hI.2
          have f1 := hide hI.1
          replace hI := hI.2
          have f2 := hide hI.1
          replace hI := hI.2
          have f3 := hide hI.1
          replace hI := hI.2
          have f4 := hide hI.1
          replace hI := hI.2
          have f5 := hide hI.1
          replace hI := hI.2
          have f6 := hide hI.1
          replace hI := hI.2
          have f7 := hide hI.1
          replace hI := hI.2
          have f8 := hide hI.1
          replace hI := hI.2
          have f9 := hide hI.1
          replace hI := hI.2
          have f10 := hide hI.1
          replace hI := hI.2
          have f11 := hide hI.1
          replace hI := hI.2
          have f12 := hide hI.1
          replace hI := hI.2
          have f13 := hide hI.1
          replace hI := hI.2
          have f14 := hide hI.1
          replace hI := hI.2
          have f15 := hide hI.1
          replace hI := hI.2
          have f16 := hide hI.1
          replace hI := hI.2
          have f17 := hide hI.1
          replace hI := hI.2
          have f18 := hide hI
          clear hI
          have hGb := hG.1
          have hs1 := Nat.le_trans hsz hGb.size
          have u2 := hG.2.2.2.cell 0 rfl
          have u3 := hG.2.2.2.cell 1 rfl
          obtain rfl := f10.out (hD.on 10 (by kernel_rfl))
          obtain rfl := f11.out (hD.on 11 (by kernel_rfl))
          try simp only [puts, Act.put, List.setIfInBounds_toArray, List.set_cons_zero, List.set_cons_succ]
          try go_simp
          exact hK.out _ _ _ (by simp only [puts, Act.put, List.setIfInBounds_toArray, List.set_cons_zero, List.set_cons_succ] <;> rfl) ⟨hG, (fun h => f0.out h), (fun h => f1.out h), (fun h => f2.out h), (fun h => f3.out h), (fun h => f4.out h), (fun h => f5.out h), (fun h => f6.out h), (fun h => f7.out h), (fun h => f8.out h), (fun h => f9.out h), (fun h => f10.out h), (fun h => f11.out h), (fun _ => rfl), (fun h => f13.out h), (fun h => f14.out h), (fun h => f15.out h), (fun h => f16.out h), (fun h => f17.out h), (fun h => f18.out h)⟩
        · intro L vs W hlen hL hD hI K hK
          obtain ⟨x0, x1, x2, x3, x4, x5, x6, x7, x8, x9, x10, x11, x12, x13, x14, x15, x16, x17, x18, rfl⟩ := len19 hlen
          have hG := hI.1
          replace hI := hI.2
          have f0 := hide hI.1
          replace hI := hI.2
          have f1 := hide hI.1
          replace hI := hI.2
          have f2 := hide hI.1
          replace hI := hI.2
          have f3 := hide hI.1
          replace hI := hI.2
          have f4 := hide hI.1
          replace hI := hI.2
          have f5 := hide hI.1
          replace hI := hI.2
          have f6 := hide hI.1
          replace hI := hI.2
          have f7 := hide hI.1
          replace hI := hI.2
          have f8 := hide hI.1
          replace hI := hI.2
          have f9 := hide hI.1
          replace hI := hI.2
          have f10 := hide hI.1
          replace hI := hI.2
          have f11 := hide hI.1
          replace hI := hI.2
          have f12 := hide hI.1
          replace hI := hI.2
          have f13 := hide hI.1
          replace hI := hI.2
          have f14 := hide hI.1
          replace hI := hI.2
          have f15 := hide hI.1
          replace hI := hI.2
          have f16 := hide hI.1
          replace hI := hI.2
          have f17 := hide hI.1
          replace hI := hI.2
          have f18 := hide hI
          clear hI
          have hGb := hG.1
          have hs1 := Nat.le_trans hsz hGb.size
          have u2 := hG.2.2.2.cell 0 rfl
          have u3 := hG.2.2.2.cell 1 rfl
          obtain rfl := f8.out (hD.on 8 (by kernel_rfl))
          obtain rfl := f12.out (hD.on 12 (by kernel_rfl))
          try simp only [puts, Act.put, List.setIfInBounds_toArray, List.set_cons_zero, List.set_cons_succ]
          try go_simp
          exact hK.out _ _ _ (by simp only [puts, Act.put, List.setIfInBounds_toArray, List.set_cons_zero, List.set_cons_succ] <;> rfl) ⟨hG, (fun h => f0.out h), (fun h => f1.out h), (fun h => f2.out h), (fun h => f3.out h), (fun h => f4.out h), (fun h => f5.out h), (fun h => f6.out h), (fun h => f7.out h), (fun h => f8.out h), (fun h => f9.out h), (fun h => f10.out h), (fun h => f11.out h), (fun h => f12.out h), (fun _ => rfl), (fun h => f14.out h), (fun h => f15.out h), (fun h => f16.out h), (fun h => f17.out h), (fun h => f18.out h)⟩
        · intro L vs W hlen hL hD hI K hK
          obtain ⟨x0, x1, x2, x3, x4, x5, x6, x7, x8, x9, x10, x11, x12, x13, x14, x15, x16, x17, x18, rfl⟩ := len19 hlen
          have hG := hI.1
          replace hI := hI.2
          have f0 := hide hI.1
          replace hI := hI.2
          have f1 := hide hI.1
          replace hI := hI.2
          have f2 := hide hI.1
          replace hI := hI.2
          have f3 := hide hI.1
          replace hI := hI.2
          have f4 := hide hI.1
          replace hI := hI.2
          have f5 := hide hI.1
          replace hI := hI.2
          have f6 := hide hI.1
          replace hI := hI.2
          have f7 := hide hI.1
          replace hI := hI.2
          have f8 := hide hI.1
          replace hI := hI.2
          have f9 := hide hI.1
          replace hI := hI.2
          have f10 := hide hI.1
          replace hI := hI.2
          have f11 := hide hI.1
          replace hI := hI.2
          have f12 := hide hI.1
          replace hI := hI.2
          have f13 := hide hI.1
          replace hI := hI.2
          have f14 := hide hI.1
          replace hI := hI.2
          have f15 := hide hI.1
          replace hI := hI.2
          have f16 := hide hI.1
          replace hI := hI.2
          have f17 := hide hI.1
          replace hI := hI.2
          have f18 := hide hI
          clear hI
          have hGb := hG.1
          have hs1 := Nat.le_trans hsz hGb.size
          have u2 := hG.2.2.2.cell 0 rfl
          have u3 := hG.2.2.2.cell 1 rfl
          obtain rfl := f13.out (hD.on 13 (by kernel_rfl))
          try simp only [puts, Act.put, List.setIfInBounds_toArray, List.set_cons_zero, List.set_cons_succ]
          try go_simp
          generalize hW' : World.alloc W _ = W'
          have hb : Below W.heap.size W W' := by rw [← hW']; exact bal W _
          exact hK.out _ _ _ (by simp only [puts, Act.put, List.setIfInBounds_toArray, List.set_cons_zero, List.set_cons_succ] <;> rfl) ⟨⟨hG.1.trans (hb.mono hs1), fun h => (hG.2.1 h).later hb, fun h => (hG.2.2.1 h).later' hb, hG.2.2.2.later hb⟩, (fun h => f0.out h), (fun h => f1.out h), (fun h => f2.out h), (fun h => f3.out h), (fun h => f4.out h), (fun h => f5.out h), (fun h => f6.out h), (fun h => f7.out h), (fun h => f8.out h), (fun h => f9.out h), (fun h => f10.out h), (fun h => f11.out h), (fun h => f12.out h), (fun h => f13.out h), (fun _ => fun _ => ⟨W.heap.size, rfl, by rw [← hW'] ; exact Blk.newA W _ rfl⟩), (fun h => (fun h => ⟨⟨h.1.1, rfl⟩, fun h18 => (h.2 h18).later' hb⟩) (f15.out h)), (fun h => f16.out h), (fun h => f17.out h), (fun h => (fun h => ⟨h.1, let ⟨v, b⟩ := h.2; ⟨v, b.later hb⟩⟩) (f18.out h))⟩
        · intro L vs W hlen hL hD hI K hK
          obtain ⟨x0, x1, x2, x3, x4, x5, x6, x7, x8, x9, x10, x11, x12, x13, x14, x15, x16, x17, x18, rfl⟩ := len19 hlen
          have hG := hI.1
          replace hI := hI.2
          have f0 := hide hI.1
          replace hI := hI.2
          have f1 := hide hI.1
          replace hI := hI.2
          have f2 := hide hI.1
          replace hI := hI.2
          have f3 := hide hI.1
          replace hI := hI.2
          have f4 := hide hI.1
          replace hI := hI.2
          have f5 := hide hI.1
          replace hI := hI.2
          have f6 := hide hI.1
          replace hI := hI.2
          have f7 := hide hI.1
          replace hI := hI.2
          have f8 := hide hI.1
          replace hI := hI.2
          have f9 := hide hI.1
          replace hI := hI.2
          have f10 := hide hI.1
          replace hI := hI.2
          have f11 := hide hI.1
          replace hI := hI.2
          have f12 := hide hI.1
          replace hI := hI.2
          have f13 := hide hI.1
          replace hI := hI.2
          have f14 := hide hI.1
          replace hI := hI.2
          have f15 := hide hI.1
          replace hI := hI.2
          have f16 := hide hI.1
          replace hI := hI.2
          have f17 := hide hI.1
          replace hI := hI.2
          have f18 := hide hI
          clear hI
          have hGb := hG.1
          have hs1 := Nat.le_trans hsz hGb.size
          have u2 := hG.2.2.2.cell 0 rfl
          have u3 := hG.2.2.2.cell 1 rfl
          obtain rfl := f6.out (hD.on 6 (by kernel_rfl))
          have g14 := f14.out (hD.on 14 (by kernel_rfl))
          try simp only [puts, Act.put, List.setIfInBounds_toArray, List.set_cons_zero, List.set_cons_succ]
          have h18 : L 18 = false := Bool.eq_false_iff.2 (fun h => absurd ((f18.out h).1.2.symm.trans hL) (by decide))
          obtain ⟨b8, rfl, hB8⟩ := g14 hL
          have hO := hG.2.2.1 hL
          refine step_app_t infoWt rfl (by decide) Try.underlying52 rfl _ _ rfl (wA.heap.size + 0) _ (Si.wts.map wtCells) rfl hO (some ⟨b8, 0, none⟩) 1 1 [wtCells (r, t * N)] rfl rfl (by intro x hx ; rw [List.mem_singleton] at hx ; subst hx ; rfl) (by simp [wtCells, Value.oneCell']) (fun b hb j u hj => by cases hb ; have := hB8.cell j (by simpa using hj) ; cases j <;> simpa [Addr.add] using this) (fun e => by cases e) (by simp only [List.length_singleton] ; omega) (by simp only [List.length_singleton] ; omega) hs1 ?_
          intro v' W' hO2 hg
          have hb := below_own hO hs1 hg
          exact hK.out _ _ _ (by simp only [puts, Act.put, List.setIfInBounds_toArray, List.set_cons_zero, List.set_cons_succ] <;> rfl) ⟨⟨hG.1.trans hb, fun h => (hG.2.1 h).grown hO hs1 hg, fun h => absurd h (by simp), hG.2.2.2.grown hg (fun e => absurd (HLT.out _ e) (Nat.lt_irrefl _))⟩, (fun h => f0.out h), (fun h => f1.out h), (fun h => f2.out h), (fun h => f3.out h), (fun h => f4.out h), (fun h => f5.out h), (fun h => f6.out h), (fun h => f7.out h), (fun h => f8.out h), (fun h => f9.out h), (fun h => f10.out h), (fun h => f11.out h), (fun h => f12.out h), (fun h => f13.out h), (fun h => (fun _ h => absurd h (by simp)) (f14.out h)), (fun _ => ⟨⟨hD.on 6 (by kernel_rfl), hD.on 14 (by kernel_rfl)⟩, fun _ => hO2⟩), (fun h => f16.out h), (fun h => f17.out h), (fun h => (fun h => absurd (h.1.2.symm.trans hL) (by decide)) (f18.out h))⟩
        · intro L vs W hlen hL hD hI K hK
          obtain ⟨x0, x1, x2, x3, x4, x5, x6, x7, x8, x9, x10, x11, x12, x13, x14, x15, x16, x17, x18, rfl⟩ := len19 hlen
          have hG := hI.1
          replace hI := hI.2
          have f0 := hide hI.1
          replace hI := hI.2
          have f1 := hide hI.1
          replace hI := hI.2
          have f2 := hide hI.1
          replace hI := hI.2
          have f3 := hide hI.1
          replace hI := hI.2
          have f4 := hide hI.1
          replace hI := hI.2
          have f5 := hide hI.1
          replace hI := hI.2
          have f6 := hide hI.1
          replace hI := hI.2
          have f7 := hide hI.1
          replace hI := hI.2
          have f8 := hide hI.1
          replace hI := hI.2
          have f9 := hide hI.1
          replace hI := hI.2
          have f10 := hide hI.1
          replace hI := hI.2
          have f11 := hide hI.1
          replace hI := hI.2
          have f12 := hide hI.1
          replace hI := hI.2
          have f13 := hide hI.1
          replace hI := hI.2
          have f14 := hide hI.1
          replace hI := hI.2
          have f15 := hide hI.1
          replace hI := hI.2
          have f16 := hide hI.1
          replace hI := hI.2
          have f17 := hide hI.1
          replace hI := hI.2
          have f18 := hide hI
          clear hI
          have hGb := hG.1
          have hs1 := Nat.le_trans hsz hGb.size
          have u2 := hG.2.2.2.cell 0 rfl
          have u3 := hG.2.2.2.cell 1 rfl
          obtain rfl := f0.out (hD.on 0 (by kernel_rfl))
          obtain rfl := f1.out (hD.on 1 (by kernel_rfl))
          try simp only [puts, Act.put, List.setIfInBounds_toArray, List.set_cons_zero, List.set_cons_succ]
          try go_simp
          exact hK.out _ _ _ (by simp only [puts, Act.put, List.setIfInBounds_toArray, List.set_cons_zero, List.set_cons_succ] <;> rfl) ⟨hG, (fun h => f0.out h), (fun h => f1.out h), (fun h => f2.out h), (fun h => f3.out h), (fun h => f4.out h), (fun h => f5.out h), (fun h => f6.out h), (fun h => f7.out h), (fun h => f8.out h), (fun h => f9.out h), (fun h => f10.out h), (fun h => f11.out h), (fun h => f12.out h), (fun h => f13.out h), (fun h => f14.out h), (fun h => f15.out h), (fun _ => rfl), (fun h => f17.out h), (fun h => f18.out h)⟩
        · intro L vs W hlen hL hD hI K hK
          obtain ⟨x0, x1, x2, x3, x4, x5, x6, x7, x8, x9, x10, x11, x12, x13, x14, x15, x16, x17, x18, rfl⟩ := len19 hlen
          have hG := hI.1
          replace hI := hI.2
          have f0 := hide hI.1
          replace hI := hI.2
          have f1 := hide hI.1
          replace hI := hI.2
          have f2 := hide hI.1
          replace hI := hI.2
          have f3 := hide hI.1
          replace hI := hI.2
          have f4 := hide hI.1
          replace hI := hI.2
          have f5 := hide hI.1
          replace hI := hI.2
          have f6 := hide hI.1
          replace hI := hI.2
          have f7 := hide hI.1
          replace hI := hI.2
          have f8 := hide hI.1
          replace hI := hI.2
          have f9 := hide hI.1
          replace hI := hI.2
          have f10 := hide hI.1
          replace hI := hI.2
          have f11 := hide hI.1
          replace hI := hI.2
          have f12 := hide hI.1
          replace hI := hI.2
          have f13 := hide hI.1
          replace hI := hI.2
          have f14 := hide hI.1
          replace hI := hI.2
          have f15 := hide hI.1
          replace hI := hI.2
          have f16 := hide hI.1
          replace hI := hI.2
          have f17 := hide hI.1
          replace hI := hI.2
          have f18 := hide hI
          clear hI
          have hGb := hG.1
          have hs1 := Nat.le_trans hsz hGb.size
          have u2 := hG.2.2.2.cell 0 rfl
          have u3 := hG.2.2.2.cell 1 rfl
          obtain rfl := f16.out (hD.on 16 (by kernel_rfl))
          try simp only [puts, Act.put, List.setIfInBounds_toArray, List.set_cons_zero, List.set_cons_succ]
          try go_simp
          exact hK.out _ _ _ (by simp only [puts, Act.put, List.setIfInBounds_toArray, List.set_cons_zero, List.set_cons_succ] <;> rfl) ⟨hG, (fun h => f0.out h), (fun h => f1.out h), (fun h => f2.out h), (fun h => f3.out h), (fun h => f4.out h), (fun h => f5.out h), (fun h => f6.out h), (fun h => f7.out h), (fun h => f8.out h), (fun h => f9.out h), (fun h => f10.out h), (fun h => f11.out h), (fun h => f12.out h), (fun h => f13.out h), (fun h => f14.out h), (fun h => f15.out h), (fun h => f16.out h), (fun _ => rfl), (fun h => f18.out h)⟩
        · intro L vs W hlen hL hD hI K hK
          obtain ⟨x0, x1, x2, x3, x4, x5, x6, x7, x8, x9, x10, x11, x12, x13, x14, x15, x16, x17, x18, rfl⟩ := len19 hlen
          have hG := hI.1
          replace hI := hI.2
          have f0 := hide hI.1
          replace hI := hI.2
          have f1 := hide hI.1
          replace hI := hI.2
          have f2 := hide hI.1
          replace hI := hI.2
          have f3 := hide hI.1
          replace hI := hI.2
          have f4 := hide hI.1
          replace hI := hI.2
          have f5 := hide hI.1
          replace hI := hI.2
          have f6 := hide hI.1
          replace hI := hI.2
          have f7 := hide hI.1
          replace hI := hI.2
          have f8 := hide hI.1
          replace hI := hI.2
          have f9 := hide hI.1
          replace hI := hI.2
          have f10 := hide hI.1
          replace hI := hI.2
          have f11 := hide hI.1
          replace hI := hI.2
          have f12 := hide hI.1
          replace hI := hI.2
          have f13 := hide hI.1
          replace hI := hI.2
          have f14 := hide hI.1
          replace hI := hI.2
          have f15 := hide hI.1
          replace hI := hI.2
          have f16 := hide hI.1
          replace hI := hI.2
          have f17 := hide hI.1
          replace hI := hI.2
          have f18 := hide hI
          clear hI
          have hGb := hG.1
          have hs1 := Nat.le_trans hsz hGb.size
          have u2 := hG.2.2.2.cell 0 rfl
          have u3 := hG.2.2.2.cell 1 rfl
          have g15 := f15.out (hD.on 15 (by kernel_rfl))
          obtain rfl := f17.out (hD.on 17 (by kernel_rfl))
          try simp only [puts, Act.put, List.setIfInBounds_toArray, List.set_cons_zero, List.set_cons_succ]
          have hO := g15.2 hL
          have hT := hG.2.1 hL
          have y3 := hT.cell hkl
          have fz := hT.frozen (k * 4 + 3)
          obtain ⟨a9, c9, e9⟩ := own_form hO (n := q + 1) (by have := HSL2.out ; simp ; omega)
          subst e9
          go_simp
          have hb := Below.refl W.heap.size W
          exact hK.out _ undef _ (by simp only [puts, Act.put, List.setIfInBounds_toArray, List.set_cons_zero, List.set_cons_succ] <;> rfl) ⟨⟨hG.1.setCell (p := ⟨g, k * 4 + 3, none⟩) (BT.ge hT) _, fun h => absurd h (by simp), fun h => absurd (h.symm.trans (hD.on 15 (by kernel_rfl))) (by decide), hG.2.2.2.other (show wr.heap.size ≠ g by have := HGL.out ; omega) _ _⟩, (fun h => f0.out h), (fun h => f1.out h), (fun h => f2.out h), (fun h => f3.out h), (fun h => f4.out h), (fun h => f5.out h), (fun h => f6.out h), (fun h => f7.out h), (fun h => f8.out h), (fun h => f9.out h), (fun h => f10.out h), (fun h => f11.out h), (fun h => f12.out h), (fun h => f13.out h), (fun h => (fun _ h => absurd (h.symm.trans (hD.on 15 (by kernel_rfl))) (by decide)) (f14.out h)), (fun h => (fun h => ⟨h.1, fun h18 => absurd h18 (by simp)⟩) (f15.out h)), (fun h => f16.out h), (fun h => f17.out h), (fun _ => ⟨⟨g15.1.1, hD.on 15 (by kernel_rfl)⟩, _, hT.put hkl (by simpa using hO) ⟨rfl, rfl, rfl⟩⟩)⟩
      intro L vs W hlen hall hI
      obtain ⟨x0, x1, x2, x3, x4, x5, x6, x7, x8, x9, x10, x11, x12, x13, x14, x15, x16, x17, x18, rfl⟩ := len19 hlen
      have hG := hI.1
      replace hI := hI.2
      have f0 := hide hI.1
      replace hI := hI.2
      have f1 := hide hI.1
      replace hI := hI.2
      have f2 := hide hI.1
      replace hI := hI.2
      have f3 := hide hI.1
      replace hI := hI.2
      have f4 := hide hI.1
      replace hI := hI.2
      have f5 := hide hI.1
      replace hI := hI.2
      have f6 := hide hI.1
      replace hI := hI.2
      have f7 := hide hI.1
      replace hI := hI.2
      have f8 := hide hI.1
      replace hI := hI.2
      have f9 := hide hI.1
      replace hI := hI.2
      have f10 := hide hI.1
      replace hI := hI.2
      have f11 := hide hI.1
      replace hI := hI.2
      have f12 := hide hI.1
      replace hI := hI.2
      have f13 := hide hI.1
      replace hI := hI.2
      have f14 := hide hI.1
      replace hI := hI.2
      have f15 := hide hI.1
      replace hI := hI.2
      have f16 := hide hI.1
      replace hI := hI.2
      have f17 := hide hI.1
      replace hI := hI.2
      have f18 := hide hI
      clear hI
      obtain rfl := f0.out (hall 0 (by decide))
      obtain rfl := f1.out (hall 1 (by decide))
      obtain rfl := f2.out (hall 2 (by decide))
      obtain rfl := f3.out (hall 3 (by decide))
      obtain rfl := f4.out (hall 4 (by decide))
      obtain rfl := f5.out (hall 5 (by decide))
      obtain rfl := f6.out (hall 6 (by decide))
      obtain rfl := f7.out (hall 7 (by decide))
      obtain rfl := f8.out (hall 8 (by decide))
      obtain rfl := f9.out (hall 9 (by decide))
      obtain rfl := f10.out (hall 10 (by decide))
      obtain rfl := f11.out (hall 11 (by decide))
      obtain rfl := f12.out (hall 12 (by decide))
      obtain rfl := f13.out (hall 13 (by decide))
      have g14 := f14.out (hall 14 (by decide))
      have g15 := f15.out (hall 15 (by decide))
      obtain rfl := f16.out (hall 16 (by decide))
      obtain rfl := f17.out (hall 17 (by decide))
      have g18 := f18.out (hall 18 (by decide))
      have hal := hide hall
      clear hall f0 f1 f2 f3 f4 f5 f6 f7 f8 f9 f10 f11 f12 f13 f14 f15 f16 f17 f18
      try simp only [puts, Act.put, List.setIfInBounds_toArray, List.set_cons_zero, List.set_cons_succ]
      obtain ⟨-, wv9, hfin⟩ := g18
      rw [← HSI.out] at hfin
      obtain ⟨a9, c9, rfl⟩ := own_form hfin.wts (n := q + 1) (by show (((scaleW S.wts N).take (q + 1)).map wtCells).length = q + 1; rw [List.length_map, List.length_take, scale_len]; omega)
      clear g15 g14 hG
      go_wp2_with fail
      go_roundw
      case rel => exact ⟨q + 1, by omega, by go_num, ⟨a9, c9, hfin⟩, HQ1.out⟩
      case measure => simp [intOf]; omega
    · obtain rfl : q = S.wts.length := by omega
      rw [take_all] at HB
      have HGS := hide (HB.out.steps hkl)
      have HHQ := hide (all_wts (P := fun w => 1 ≤ w.2 ∧ w.2 * N ≤ 1000) HQO.out)
      obtain ⟨W7, rfl⟩ : ∃ W', W' = wr := ⟨_, rfl⟩
      have hbW := below2 HWA.out hbr
      have HS7 := hide (HSL.out.keeps (keeps_of_below hbr))
      have HLC7 : Hid (∀ i : Nat, i < l.length → W7.cell? ⟨lb, lo + i * 4 + 1, none⟩ = some (.int .i64 (l.getD i st0).no) ∧ W7.cell? ⟨lb, lo + i * 4 + 2, none⟩ = some (.int .i64 (l.getD i st0).yes)) := hide fun i hi => by
        obtain ⟨b, o, wv, e, -, h1, h2, -⟩ := HLC.out i hi
        cases e
        exact ⟨keep hbr h1, keep hbr h2⟩
      have bP7 := HPA.out.later hbr
      have bS7 := HSA.out.later hbr
      have bE7 := HEA.out.later hbr
      have hr7 := HRA.out.below hbr
      have hg7 := HGA.out.below hbr
      have hx7 := HXA.out.keeps (keeps_of_below hbr)
      have hllI : (l.length : Int) ≤ 9223372036854775807 := by omega
      have HW7 := hide hbW
      have HP7 := hide bP7
      have HSS7 := hide bS7
      have HE7 := hide bE7
      have HR7 := hide hr7
      have HG7 := hide hg7
      have HX7 := hide hx7
      have HL4 := hide (fun b hb j u hj => keep hbr (H4.out b hb j u hj))
      have HL6 := hide (fun i hi => let ⟨wv, e, h⟩ := H6.out i hi; (⟨wv, e, h.keeps (keeps_of_below hbr)⟩ : ∃ wv, LL.getD i [] = stepCells (l.getD i st0) wv ∧ WtsIn W7.cell? wv (l.getD i st0).wts))
      clear HB HQO hbr bP7 bS7 bE7 hr7 hg7 hx7 hbW HSL HLC HPA HSA HEA HRA HGA HXA HWA HBS HOKS HT3 HWC H4 H6
      go_wp2_with fail
      clear y3
      go_loopw [25, 26] (fun b i wr => ∃ q : Nat, q ≤ l.length ∧ i = .int .i64 q ∧ b = .bool (wholeK l q) ∧ Below W7.heap.size W7 wr) (fun _ i _ => l.length - (intOf i).toNat)
      case atStart => exact ⟨0, Nat.zero_le _, rfl, rfl, Below.refl _ _⟩
      case round =>
        obtain ⟨q, hq, rfl, rfl, hbr⟩ := hrel
        by_cases hql : q < l.length
        · have hqd : decide (q < l.length) = true := by simpa using hql
          obtain ⟨u1, u2⟩ := HLC7.out q hql
          replace u1 := keep hbr u1
          replace u2 := keep hbr u2
          have HWK : Hid (wholeK l (q + 1) = (wholeK l q && decide ((l.getD q st0).no < (l.length : Int)) && decide ((l.getD q st0).yes < (l.length : Int)))) := hide rfl
          generalize l.getD q st0 = St at u1 u2 HWK
          obtain ⟨sv, sn, sy, sw⟩ := St
          generalize wholeK l q = B at HWK ⊢
          cases hB : B
          · go_wp2_with fail
            go_roundw
            case rel => exact ⟨q + 1, by omega, by go_num, by rw [HWK.out, hB]; rfl, hbr⟩
            case measure => simp [intOf]; omega
          · by_cases h1 : sn < (l.length : Int)
            · have d1 : decide (sn < (l.length : Int)) = true := decide_eq_true h1
              by_cases h2 : sy < (l.length : Int)
              · have d2 : decide (sy < (l.length : Int)) = true := decide_eq_true h2
                go_wp2_with fail
                go_roundw
                case rel => exact ⟨q + 1, by omega, by go_num, by rw [HWK.out, hB, d1, d2]; rfl, hbr⟩
                case measure => simp [intOf]; omega
              · have d2 : decide (sy < (l.length : Int)) = false := decide_eq_false h2
                go_wp2_with fail
                go_roundw
                case rel => exact ⟨q + 1, by omega, by go_num, by rw [HWK.out, hB, d1, d2]; rfl, hbr⟩
                case measure => simp [intOf]; omega
            · have d1 : decide (sn < (l.length : Int)) = false := decide_eq_false h1
              go_wp2_with fail
              go_roundw
              case rel => exact ⟨q + 1, by omega, by go_num, by rw [HWK.out, hB, d1]; rfl, hbr⟩
              case measure => simp [intOf]; omega
        · obtain rfl : q = l.length := by omega
          obtain ⟨W8, rfl⟩ : ∃ W', W' = wr := ⟨_, rfl⟩
          have bE8 := HE7.out.later hbr
          have k0 := bE8.cell 0 rfl
          have k1 := bE8.cell 1 rfl
          have k2 := bE8.cell 2 rfl
          have k3 := bE8.cell 3 rfl
          have HBR := hide hbr
          clear hbr bE8
          go_upto_region 25 with fail
          refine wp_region_inv [some 136, some 137, some 138, some 139, some 140, some 141, some 27] (fun L vs W => match vs with | [x0, x1, x2, x3, x4, x5, x6] => (Below W8.heap.size W8 W) ∧ (L 0 = true → L 2 = false → ∃ b0 : Nat, W8.heap.size ≤ b0 ∧ x0 = .slice (some ⟨b0, 0, none⟩) 0 0 ∧ Blk W b0 [] 54) ∧ (L 1 = true → x1 = .slice (some ⟨lb, lo, none⟩) l.length lc) ∧ (L 2 = true → L 5 = false → OwnR W W8.heap.size 54 4 x2 LL) ∧ (L 3 = true → x3 = .agg #[.int .i64 ex.var, .int .i64 ex.no, .int .i64 ex.yes, .slice ea ex.wts.length en]) ∧ (L 4 = true → L 5 = false → ∃ b4 : Nat, x4 = .slice (some ⟨b4, 0, none⟩) 1 1 ∧ Blk W b4 (stepCells ex (.slice ea ex.wts.length en)) 54) ∧ (L 5 = true → (L 2 = true ∧ L 4 = true) ∧ StepsIn W.cell? x5 (l ++ [ex])) ∧ (L 6 = true → (L 2 = true ∧ L 5 = true) ∧ StepsIn W.cell? x6 (l ++ [ex])) | _ => False) [_, _, _, _, _, _, _] (by kernel_rfl) (by kernel_rfl) rfl (by simp only [puts, Act.put, List.setIfInBounds_toArray, List.set_cons_zero, List.set_cons_succ] <;> rfl) ?_ ?_ ?_
          · exact ⟨(Below.refl _ _).drew, (fun h => by cases h), (fun h => by cases h), (fun h => by cases h), (fun h => by cases h), (fun h => by cases h), (fun h => by cases h), (fun h => by cases h)⟩
          · refine ⟨?_, ?_, ?_, ?_, ?_, ?_, ?_, trivial⟩
            · intro L vs W hlen hL hD hI K hK
              obtain ⟨x0, x1, x2, x3, x4, x5, x6, rfl⟩ := len7 hlen
              have hG := hI.1
              replace hI := hI.2
              have f0 := hide hI.1
              replace hI := hI.2
              have f1 := hide hI.1
              replace hI := hI.2
              have f2 := hide hI.1
              replace hI := hI.2
              have f3 := hide hI.1
              replace hI := hI.2
              have f4 := hide hI.1
              replace hI := hI.2
              have f5 := hide hI.1
              replace hI := hI.2
              have f6 := hide hI
              clear hI
              have k0 := keep hG k0
              have k1 := keep hG k1
              have k2 := keep hG k2
              have k3 := keep hG k3
              try simp only [puts, Act.put, List.setIfInBounds_toArray, List.set_cons_zero, List.set_cons_succ]
              try go_simp
              generalize hW' : World.alloc W _ = W'
              have hb : Below W.heap.size W W' := by rw [← hW']; exact bal W _
              exact hK.out _ _ _ (by simp only [puts, Act.put, List.setIfInBounds_toArray, List.set_cons_zero, List.set_cons_succ] <;> rfl) ⟨below2 hG hb, (fun _ => fun _ => ⟨W.heap.size, hG.size, rfl, by rw [← hW'] ; exact Blk.newA W _ rfl⟩), (fun h => f1.out h), (fun h => (fun h => fun h9 => (h h9).later' hb) (f2.out h)), (fun h => f3.out h), (fun h => (fun h => fun h5 => let ⟨b4, e4, hB4⟩ := h h5; ⟨b4, e4, hB4.later hb⟩) (f4.out h)), (fun h => (fun h => ⟨h.1, h.2.keeps (keeps_of_below hb)⟩) (f5.out h)), (fun h => (fun h => ⟨h.1, h.2.keeps (keeps_of_below hb)⟩) (f6.out h))⟩
            · intro L vs W hlen hL hD hI K hK
              obtain ⟨x0, x1, x2, x3, x4, x5, x6, rfl⟩ := len7 hlen
              have hG := hI.1
              replace hI := hI.2
              have f0 := hide hI.1
              replace hI := hI.2
              have f1 := hide hI.1
              replace hI := hI.2
              have f2 := hide hI.1
              replace hI := hI.2
              have f3 := hide hI.1
              replace hI := hI.2
              have f4 := hide hI.1
              replace hI := hI.2
              have f5 := hide hI.1
              replace hI := hI.2
              have f6 := hide hI
              clear hI
              have k0 := keep hG k0
              have k1 := keep hG k1
              have k2 := keep hG k2
              have k3 := keep hG k3
              try simp only [puts, Act.put, List.setIfInBounds_toArray, List.set_cons_zero, List.set_cons_succ]
              try go_simp
              exact hK.out _ _ _ (by simp only [puts, Act.put, List.setIfInBounds_toArray, List.set_cons_zero, List.set_cons_succ] <;> rfl) ⟨hG, (fun h => f0.out h), (fun _ => rfl), (fun h => f2.out h), (fun h => f3.out h), (fun h => f4.out h), (fun h => f5.out h), (fun h => f6.out h)⟩
            · intro L vs W hlen hL hD hI K hK
              obtain ⟨x0, x1, x2, x3, x4, x5, x6, rfl⟩ := len7 hlen
              have hG := hI.1
              replace hI := hI.2
              have f0 := hide hI.1
              replace hI := hI.2
              have f1 := hide hI.1
              replace hI := hI.2
              have f2 := hide hI.1
              replace hI := hI.2
              have f3 := hide hI.1
              replace hI := hI.2
              have f4 := hide hI.1
              replace hI := hI.2
              have f5 := hide hI.1
              replace hI := hI.2
              have f6 := hide hI
              clear hI
              have k0 := keep hG k0
              have k1 := keep hG k1
              have k2 := keep hG k2
              have k3 := keep hG k3
              have g0 := f0.out (hD.on 0 (by kernel_rfl))
              obtain rfl := f1.out (hD.on 1 (by kernel_rfl))
              try simp only [puts, Act.put, List.setIfInBounds_toArray, List.set_cons_zero, List.set_cons_succ]
              obtain ⟨b0, hb0, rfl, hB0⟩ := g0 hL
              refine step_app_t infoStep rfl (by decide) Try.underlying30 rfl _ _ rfl W8.heap.size _ [] rfl (own_none hB0 hb0) (some ⟨lb, lo, none⟩) l.length lc LL H1.out.symm rfl H2.out H3.out (fun b hb j u hj => keep hG (keep HBR.out (HL4.out b hb j u hj))) H5.out (by rw [H1.out] ; simp only [List.length_nil, Nat.zero_add] ; omega) (by rw [H1.out] ; simp only [List.length_nil, Nat.zero_add] ; omega) hG.size ?_
              intro v' W' hO hg
              have hg' : W.grownBy W' (some b0) := hg
              have hb := below_own (own_none (k := 4) hB0 hb0) hG.size hg
              exact hK.out _ _ _ (by simp only [puts, Act.put, List.setIfInBounds_toArray, List.set_cons_zero, List.set_cons_succ] <;> rfl) ⟨hG.trans hb, (fun h => (fun _ h3 => absurd h3 (by simp)) (f0.out h)), (fun h => f1.out h), (fun _ => fun _ => by simpa using hO), (fun h => f3.out h), (fun h => (fun h h5 => let ⟨b4, e4, hB4⟩ := h h5; ⟨b4, e4, hB4.grown hg' (fun e => by cases e ; exact absurd (hB0.symm.trans hB4) (by simp [stepCells]))⟩) (f4.out h)), (fun h => (fun h => absurd (h.1.1.symm.trans hL) (by decide)) (f5.out h)), (fun h => (fun h => absurd (h.1.1.symm.trans hL) (by decide)) (f6.out h))⟩
            · intro L vs W hlen hL hD hI K hK
              obtain ⟨x0, x1, x2, x3, x4, x5, x6, rfl⟩ := len7 hlen
              have hG := hI.1
              replace hI := hI.2
              have f0 := hide hI.1
              replace hI := hI.2
              have f1 := hide hI.1
              replace hI := hI.2
              have f2 := hide hI.1
              replace hI := hI.2
              have f3 := hide hI.1
              replace hI := hI.2
              have f4 := hide hI.1
              replace hI := hI.2
              have f5 := hide hI.1
              replace hI := hI.2
              have f6 := hide hI
              clear hI
              have k0 := keep hG k0
              have k1 := keep hG k1
              have k2 := keep hG k2
              have k3 := keep hG k3
              try simp only [puts, Act.put, List.setIfInBounds_toArray, List.set_cons_zero, List.set_cons_succ]
              try go_simp
              exact hK.out _ _ _ (by simp only [puts, Act.put, List.setIfInBounds_toArray, List.set_cons_zero, List.set_cons_succ] <;> rfl) ⟨hG, (fun h => f0.out h), (fun h => f1.out h), (fun h => f2.out h), (fun _ => rfl), (fun h => f4.out h), (fun h => f5.out h), (fun h => f6.out h)⟩
            · intro L vs W hlen hL hD hI K hK
              obtain ⟨x0, x1, x2, x3, x4, x5, x6, rfl⟩ := len7 hlen
              have hG := hI.1
              replace hI := hI.2
              have f0 := hide hI.1
              replace hI := hI.2
              have f1 := hide hI.1
              replace hI := hI.2
              have f2 := hide hI.1
              replace hI := hI.2
              have f3 := hide hI.1
              replace hI := hI.2
              have f4 := hide hI.1
              replace hI := hI.2
              have f5 := hide hI.1
              replace hI := hI.2
              have f6 := hide hI
              clear hI
              have k0 := keep hG k0
              have k1 := keep hG k1
              have k2 := keep hG k2
              have k3 := keep hG k3
              obtain rfl := f3.out (hD.on 3 (by kernel_rfl))
              try simp only [puts, Act.put, List.setIfInBounds_toArray, List.set_cons_zero, List.set_cons_succ]
              try go_simp
              generalize hW' : World.alloc W _ = W'
              have hb : Below W.heap.size W W' := by rw [← hW']; exact bal W _
              exact hK.out _ _ _ (by simp only [puts, Act.put, List.setIfInBounds_toArray, List.set_cons_zero, List.set_cons_succ] <;> rfl) ⟨below2 hG hb, (fun h => (fun h => fun h3 => let ⟨b0, a1, a2, a3⟩ := h h3; ⟨b0, a1, a2, a3.later hb⟩) (f0.out h)), (fun h => f1.out h), (fun h => (fun h => fun h9 => (h h9).later' hb) (f2.out h)), (fun h => f3.out h), (fun _ => fun _ => ⟨W.heap.size, rfl, by rw [← hW'] ; exact Blk.newA W _ rfl⟩), (fun h => (fun h => ⟨⟨h.1.1, rfl⟩, h.2.keeps (keeps_of_below hb)⟩) (f5.out h)), (fun h => (fun h => ⟨h.1, h.2.keeps (keeps_of_below hb)⟩) (f6.out h))⟩
            · intro L vs W hlen hL hD hI K hK
              obtain ⟨x0, x1, x2, x3, x4, x5, x6, rfl⟩ := len7 hlen
              have hG := hI.1
              replace hI := hI.2
              have f0 := hide hI.1
              replace hI := hI.2
              have f1 := hide hI.1
              replace hI := hI.2
              have f2 := hide hI.1
              replace hI := hI.2
              have f3 := hide hI.1
              replace hI := hI.2
              have f4 := hide hI.1
              replace hI := hI.2
              have f5 := hide hI.1
              replace hI := hI.2
              have f6 := hide hI
              clear hI
              have k0 := keep hG k0
              have k1 := keep hG k1
              have k2 := keep hG k2
              have k3 := keep hG k3
              have g2 := f2.out (hD.on 2 (by kernel_rfl))
              have g4 := f4.out (hD.on 4 (by kernel_rfl))
              try simp only [puts, Act.put, List.setIfInBounds_toArray, List.set_cons_zero, List.set_cons_succ]
              have hO2 := g2 hL
              obtain ⟨b4, rfl, hB4⟩ := g4 hL
              refine step_app_t infoStep rfl (by decide) Try.underlying30 rfl _ _ rfl W8.heap.size _ LL rfl hO2 (some ⟨b4, 0, none⟩) 1 1 [stepCells ex (.slice ea ex.wts.length en)] rfl rfl (by intro x hx ; rw [List.mem_singleton] at hx ; subst hx ; rfl) (by simp [stepCells, Value.oneCell']) (fun b hb j u hj => by cases hb ; have := hB4.cell j (by simpa using hj) ; cases j <;> simpa [Addr.add] using this) (fun e => by cases e) (by rw [H1.out] ; simp only [List.length_singleton] ; omega) (by rw [H1.out] ; simp only [List.length_singleton] ; omega) hG.size ?_
              intro v' W' hO hg
              have hb := below_own hO2 hG.size hg
              exact hK.out _ _ _ (by simp only [puts, Act.put, List.setIfInBounds_toArray, List.set_cons_zero, List.set_cons_succ] <;> rfl) ⟨hG.trans hb, (fun h => (fun _ h3 => absurd (h3.symm.trans (hD.on 2 (by kernel_rfl))) (by decide)) (f0.out h)), (fun h => f1.out h), (fun h => (fun _ h9 => absurd h9 (by simp)) (f2.out h)), (fun h => f3.out h), (fun h => (fun _ h9 => absurd h9 (by simp)) (f4.out h)), (fun _ => ⟨⟨hD.on 2 (by kernel_rfl), hD.on 4 (by kernel_rfl)⟩, own_steps_more hO H1.out HL6.out HX7.out (keeps_of_below (below2 HBR.out (hG.trans hb)))⟩), (fun h => (fun h => absurd (h.1.2.symm.trans hL) (by decide)) (f6.out h))⟩
            · intro L vs W hlen hL hD hI K hK
              obtain ⟨x0, x1, x2, x3, x4, x5, x6, rfl⟩ := len7 hlen
              have hG := hI.1
              replace hI := hI.2
              have f0 := hide hI.1
              replace hI := hI.2
              have f1 := hide hI.1
              replace hI := hI.2
              have f2 := hide hI.1
              replace hI := hI.2
              have f3 := hide hI.1
              replace hI := hI.2
              have f4 := hide hI.1
              replace hI := hI.2
              have f5 := hide hI.1
              replace hI := hI.2
              have f6 := hide hI
              clear hI
              have k0 := keep hG k0
              have k1 := keep hG k1
              have k2 := keep hG k2
              have k3 := keep hG k3
              have g5 := f5.out (hD.on 5 (by kernel_rfl))
              try simp only [puts, Act.put, List.setIfInBounds_toArray, List.set_cons_zero, List.set_cons_succ]
              try go_simp
              exact hK.out _ _ _ (by simp only [puts, Act.put, List.setIfInBounds_toArray, List.set_cons_zero, List.set_cons_succ] <;> rfl) ⟨hG, (fun h => f0.out h), (fun h => f1.out h), (fun h => f2.out h), (fun h => f3.out h), (fun h => f4.out h), (fun h => f5.out h), (fun _ => ⟨⟨g5.1.1, hD.on 5 (by kernel_rfl)⟩, g5.2⟩)⟩
          intro L vs W hlen hall hI
          obtain ⟨x0, x1, x2, x3, x4, x5, x6, rfl⟩ := len7 hlen
          have hG := hI.1
          replace hI := hI.2
          have f0 := hide hI.1
          replace hI := hI.2
          have f1 := hide hI.1
          replace hI := hI.2
          have f2 := hide hI.1
          replace hI := hI.2
          have f3 := hide hI.1
          replace hI := hI.2
          have f4 := hide hI.1
          replace hI := hI.2
          have f5 := hide hI.1
          replace hI := hI.2
          have f6 := hide hI
          clear hI
          have g0 := f0.out (hall 0 (by decide))
          obtain rfl := f1.out (hall 1 (by decide))
          have g2 := f2.out (hall 2 (by decide))
          obtain rfl := f3.out (hall 3 (by decide))
          have g4 := f4.out (hall 4 (by decide))
          have g5 := f5.out (hall 5 (by decide))
          have g6 := f6.out (hall 6 (by decide))
          have hal := hide hall
          clear hall f0 f1 f2 f3 f4 f5 f6
          try simp only [puts, Act.put, List.setIfInBounds_toArray, List.set_cons_zero, List.set_cons_succ]
          have hsx := g6.2
          obtain ⟨W9, rfl⟩ : ∃ W', W' = W := ⟨_, rfl⟩
          have hb79 := below2 HBR.out hG
          obtain ⟨xa9, xn9, e27, -⟩ := id hsx
          have hlx : (l ++ [ex]).length = l.length + 1 := by simp
          rw [hlx] at e27
          subst e27
          have HSX := hide hsx
          have bP9 := HP7.out.later hb79
          have bS9 := HSS7.out.later hb79
          have p0 := bP9.cell 0 rfl
          have p1 := bP9.cell 1 rfl
          have p2 := bP9.cell 2 rfl
          have s2 := bS9.cell 2 rfl
          clear g6 g5 g4 g2 g0 k0 k1 k2 k3 hsx
          have hr9 := HR7.out.below hb79
          have hg9 := HG7.out.below hb79
          have hs9 := HS7.out.keeps (keeps_of_below hb79)
          have hgs9 := HGS.out.keeps (keeps_of_below hb79)
          have hsl0 : 0 < l.length := by omega
          have hsl1 : l.length ≤ 8192 := by omega
          have HVV := HV.out
          have hwq : ∀ w ∈ (l.getD k st0).wts, 1 ≤ w.2 ∧ w.2 * N ≤ 1000 := by rw [HS.out]; exact HHQ.out
          have hll2 : rows.length ≤ 1000 := by have h3 : rows.length ≤ 300 := (valid_parts HVV).2.2.1; omega
          have hgl2 : gain.length ≤ 1000 := by obtain ⟨-, -, -, -, h1, -⟩ := valid_parts HVV; have : (gain.length : Int) = n := h1; omega
          have HBL := hide (fun W (h : Below W9.heap.size W9 W) => bounds_any ⟨n, rows, gain⟩ _ _ l _ bg W (hr9.below h) (hg9.below h) (hs9.keeps (keeps_of_below h)) hll2 hgl2)
          have HRL := hide (fun W (h : Below W9.heap.size W9 W) => refutesp_any ⟨n, rows, gain⟩ _ _ l _ W (hr9.below h) (hg9.below h) (hs9.keeps (keeps_of_below h)))
          have HWL := hide (fun W (h : Below W9.heap.size W9 W) => wrong_any ⟨n, rows, gain⟩ _ _ l _ W (hr9.below h) (hg9.below h) (hs9.keeps (keeps_of_below h)))
          have HBG := hide (fun W (h : Below W9.heap.size W9 W) => (by
            have := bounds_any ⟨n, rows, gain⟩ _ _ (l.set k (scaleSt (l.getD k st0) N)) (.slice (some ⟨g, 0, none⟩) l.length c5) bg W (hr9.below h) (hg9.below h) (by rw [HS.out]; exact hgs9.keeps (keeps_of_below h)) hll2 hgl2
            rw [bounds_scale k HVV hsl1 hsl0 hN1 hwq] at this; exact this : Calls Try.prog 25 #[progV ⟨n, rows, gain⟩ (.slice ra rows.length rc) (.slice ga gain.length gc), .slice (some ⟨g, 0, none⟩) l.length c5, .int .i64 bg] W (Ret (.bool (boundsB ⟨n, rows, gain⟩ l bg)) W)))
          have HRG := hide (fun W (h : Below W9.heap.size W9 W) => (by
            have := refutesp_any ⟨n, rows, gain⟩ _ _ (l.set k (scaleSt (l.getD k st0) N)) (.slice (some ⟨g, 0, none⟩) l.length c5) W (hr9.below h) (hg9.below h) (by rw [HS.out]; exact hgs9.keeps (keeps_of_below h))
            rw [ref_scale k HVV hsl1 hsl0 hN1 hwq] at this; exact this : Calls Try.prog 17 #[progV ⟨n, rows, gain⟩ (.slice ra rows.length rc) (.slice ga gain.length gc), .slice (some ⟨g, 0, none⟩) l.length c5] W (Ret (.bool (refB ⟨n, rows, gain⟩ l)) W)))
          have HBX := hide (fun (hw : wholeK l l.length = true) W (h : Below W9.heap.size W9 W) => (by
            have := bounds_any ⟨n, rows, gain⟩ _ _ (l ++ [ex]) (.slice xa9 (l.length + 1) xn9) bg W (hr9.below h) (hg9.below h) (HSX.out.keeps (keeps_of_below h)) hll2 hgl2
            rw [bounds_behind ex hll hsl0 hw] at this; exact this : Calls Try.prog 25 #[progV ⟨n, rows, gain⟩ (.slice ra rows.length rc) (.slice ga gain.length gc), .slice xa9 (l.length + 1) xn9, .int .i64 bg] W (Ret (.bool (boundsB ⟨n, rows, gain⟩ l bg)) W)))
          have HWX := hide (fun (hw : wholeK l l.length = true) W (h : Below W9.heap.size W9 W) => (by
            have := wrong_any ⟨n, rows, gain⟩ _ _ (l ++ [ex]) (.slice xa9 (l.length + 1) xn9) W (hr9.below h) (hg9.below h) (HSX.out.keeps (keeps_of_below h))
            rw [wrong_more ex hll hsl0 hw] at this; exact this : Calls Try.prog 19 #[progV ⟨n, rows, gain⟩ (.slice ra rows.length rc) (.slice ga gain.length gc), .slice xa9 (l.length + 1) xn9] W (Ret (.int .i64 (wrongP ⟨n, rows, gain⟩ l)) W)))
          have HRW : Hid (refB ⟨n, rows, gain⟩ l = decide (wrongP ⟨n, rows, gain⟩ l = -1)) := hide rfl
          generalize boundsB ⟨n, rows, gain⟩ l bg = BB at HBL HBG HBX
          generalize wrongP ⟨n, rows, gain⟩ l = WV at HWL HWX HRW
          generalize refB ⟨n, rows, gain⟩ l = RB at HRL HRG HRW
          generalize wholeK l l.length = WK at HBX HWX
          have hend := below2 HW7.out hb79
          clear bP9 bS9 hr9 hg9 hs9 hgs9 hsl0 hsl1 HVV hwq hll2 hgl2 hb79 hG hlx HHQ hll HS hq hql hw2 hN1 hN2 hl0 hkl hllI hwlI hwn1 hwn2 hwm1 hwm2 hl1 hl2 H1 H2 H3 H5 HL4 HL6 HLC7 HX7 HE7 HSX HGS HS7 HR7 HG7 HP7 HSS7 HBR
          go_wp2_with fail
          refine wreg26 n ra ga rows.length rc gain.length gc w2.heap.size w4.heap.size lb lo l.length lc g c5 bg BB RB W9 p0 p1 p2 s2 HBL.out HBG.out HRL.out HRG.out _ _ _ _ _ _ _ _ _ _ _ _ _ _ _ _ _ _ _ _ _ _ _ _ _ _ _ _ _ _ _ _ _ _ _ _ _ _ _ _ _ _ _ _ _ _ _ _ _ _ _ _ _ _ _ _ _ _ _ _ _ _ _ _ _ _ _ _ _ _ _ _ _ _ _ _ _ _ _ _ _ _ _ _ _ _ _ _ _ _ _ _ _ _ _ _ _ _ _ _ _ _ _ _ _ _ _ _ _ _ _ _ _ _ _ _ _ _ _ _ _ _ _ _ _ _ _ _ _ _ _ _ _ _ _ _ _ _ _ _ _ _ _ _ _ _ _ _ _ _ _ _ _ _ _ _ _ _ _ _ _ _ _ _ _ _ _ _ _ _ _ _ _ _ _ _ _ _ _ _ _ _ _ _ _ _ _ _ _ _ _ _ _ _ _ _ _ _ _ _ ?_
          intro t142 t143 t144 t145 t146 t147 t148 t149 t150 t151 t152 t153 t154 t155 t156 t157 t158 t159 t160 t161 V1 hG
          have HG1 := hide hG
          replace p0 := keep hG p0
          replace p1 := keep hG p1
          replace p2 := keep hG p2
          replace s2 := keep hG s2
          clear hG
          cases WK
          · go_wp2_with fail
            refine wreg27n V1 _ _ _ _ _ _ _ _ _ _ _ _ _ _ _ _ _ _ _ _ _ _ _ _ _ _ _ _ _ _ _ _ _ _ _ _ _ _ _ _ _ _ _ _ _ _ _ _ _ _ _ _ _ _ _ _ _ _ _ _ _ _ _ _ _ _ _ _ _ _ _ _ _ _ _ _ _ _ _ _ _ _ _ _ _ _ _ _ _ _ _ _ _ _ _ _ _ _ _ _ _ _ _ _ _ _ _ _ _ _ _ _ _ _ _ _ _ _ _ _ _ _ _ _ _ _ _ _ _ _ _ _ _ _ _ _ _ _ _ _ _ _ _ _ _ _ _ _ _ _ _ _ _ _ _ _ _ _ _ _ _ _ _ _ _ _ _ _ _ _ _ _ _ _ _ _ _ _ _ _ _ _ _ _ _ _ _ _ _ _ _ _ _ _ _ _ _ _ _ _ _ _ _ ?_
            intro t162 t163 t164 t165 t166 t167 t168 t169 t170 t171 t172 t173 t174 t175 t176 t177 t178 t179 t180 t181 t182 t183 t184 t185 V2 hG
            have HG2 := hide (below2 HG1.out hG)
            replace p0 := keep hG p0
            replace p1 := keep hG p1
            replace p2 := keep hG p2
            clear hG
            have HQV : Hid ((WV == -1) = RB) := hide (by rw [HRW.out]; by_cases h : WV = -1 <;> simp [h])
            go_wp2_with fail
            refine wreg28 n ra ga rows.length rc gain.length gc w2.heap.size lb lo l.length lc WV RB V2 p0 p1 p2 HQV.out (fun W' h => HWL.out W' (below2 HG2.out h)) (fun W' h => HRL.out W' (below2 HG2.out h)) _ _ _ _ _ _ _ _ _ _ _ _ _ _ _ _ _ _ _ _ _ _ _ _ _ _ _ _ _ _ _ _ _ _ _ _ _ _ _ _ _ _ _ _ _ _ _ _ _ _ _ _ _ _ _ _ _ _ _ _ _ _ _ _ _ _ _ _ _ _ _ _ _ _ _ _ _ _ _ _ _ _ _ _ _ _ _ _ _ _ _ _ _ _ _ _ _ _ _ _ _ _ _ _ _ _ _ _ _ _ _ _ _ _ _ _ _ _ _ _ _ _ _ _ _ _ _ _ _ _ _ _ _ _ _ _ _ _ _ _ _ _ _ _ _ _ _ _ _ _ _ _ _ _ _ _ _ _ _ _ _ _ _ _ _ _ _ _ _ _ _ _ _ _ _ _ _ _ _ _ _ _ _ _ _ _ _ _ _ _ _ _ _ _ _ _ _ _ _ ?_
            intro t186 t187 t188 t189 t190 t191 t192 t193 t194 t195 t196 t197 t198 t199 t200 t201 t202 V3 hG3
            have hfin := below2 (below2 hend HG2.out) hG3
            clear hG3
            go_wp2_with fail
            go_ret
            exact ⟨rfl, hfin⟩
          · have HBX1 := hide (HBX.out rfl)
            have HWX1 := hide (HWX.out rfl)
            go_wp2_with fail
            refine wreg27y n ra ga rows.length rc gain.length gc w2.heap.size w4.heap.size lb lo l.length lc xa9 (l.length + 1) xn9 bg WV BB V1 p0 p1 p2 s2 (fun W' h => HBL.out W' (below2 HG1.out h)) (fun W' h => HBX1.out W' (below2 HG1.out h)) (fun W' h => HWL.out W' (below2 HG1.out h)) (fun W' h => HWX1.out W' (below2 HG1.out h)) _ _ _ _ _ _ _ _ _ _ _ _ _ _ _ _ _ _ _ _ _ _ _ _ _ _ _ _ _ _ _ _ _ _ _ _ _ _ _ _ _ _ _ _ _ _ _ _ _ _ _ _ _ _ _ _ _ _ _ _ _ _ _ _ _ _ _ _ _ _ _ _ _ _ _ _ _ _ _ _ _ _ _ _ _ _ _ _ _ _ _ _ _ _ _ _ _ _ _ _ _ _ _ _ _ _ _ _ _ _ _ _ _ _ _ _ _ _ _ _ _ _ _ _ _ _ _ _ _ _ _ _ _ _ _ _ _ _ _ _ _ _ _ _ _ _ _ _ _ _ _ _ _ _ _ _ _ _ _ _ _ _ _ _ _ _ _ _ _ _ _ _ _ _ _ _ _ _ _ _ _ _ _ _ _ _ _ _ _ _ _ _ _ _ _ _ _ _ _ ?_
            intro t162 t163 t164 t165 t166 t167 t168 t169 t170 t171 t172 t173 t174 t175 t176 t177 t178 t179 t180 t181 t182 t183 t184 t185 V2 hG
            have HG2 := hide (below2 HG1.out hG)
            replace p0 := keep hG p0
            replace p1 := keep hG p1
            replace p2 := keep hG p2
            clear hG
            have HQV : Hid ((WV == -1) = RB) := hide (by rw [HRW.out]; by_cases h : WV = -1 <;> simp [h])
            go_wp2_with fail
            refine wreg28 n ra ga rows.length rc gain.length gc w2.heap.size lb lo l.length lc WV RB V2 p0 p1 p2 HQV.out (fun W' h => HWL.out W' (below2 HG2.out h)) (fun W' h => HRL.out W' (below2 HG2.out h)) _ _ _ _ _ _ _ _ _ _ _ _ _ _ _ _ _ _ _ _ _ _ _ _ _ _ _ _ _ _ _ _ _ _ _ _ _ _ _ _ _ _ _ _ _ _ _ _ _ _ _ _ _ _ _ _ _ _ _ _ _ _ _ _ _ _ _ _ _ _ _ _ _ _ _ _ _ _ _ _ _ _ _ _ _ _ _ _ _ _ _ _ _ _ _ _ _ _ _ _ _ _ _ _ _ _ _ _ _ _ _ _ _ _ _ _ _ _ _ _ _ _ _ _ _ _ _ _ _ _ _ _ _ _ _ _ _ _ _ _ _ _ _ _ _ _ _ _ _ _ _ _ _ _ _ _ _ _ _ _ _ _ _ _ _ _ _ _ _ _ _ _ _ _ _ _ _ _ _ _ _ _ _ _ _ _ _ _ _ _ _ _ _ _ _ _ _ _ _ ?_
            intro t186 t187 t188 t189 t190 t191 t192 t193 t194 t195 t196 t197 t198 t199 t200 t201 t202 V3 hG3
            have hfin := below2 (below2 hend HG2.out) hG3
            clear hG3
            go_wp2_with fail
            go_ret
            exact ⟨rfl, hfin⟩
end Go.Proofs.Ytppfdjjhloaopaa
namespace Go.Proofs.Ytppfdjjhloaopaa
open Go.ChangeShapes Go.WideShapes Go.ChangeAt Go.RowKit

set_option maxRecDepth 100000 in
theorem weights_lifted (os : Os) (started : os.Started) (H : Type) (enc : TypeId × Value → H) :
    ReturnsInHanded {} Try.checked os 4 .any (Rows.proofWeightsSpec.pre6 enc Try.prog Try.f4 Rows.proofWeightsRow.domain false) (Rows.proofWeightsSpec.post enc Try.prog Try.f4 false true false false) := by
  refine returnsInHanded_of_change (C := Try.checked) Try.own started (by kernel_rfl) Try.func4
    (ChangeSpec.witness6 (enc := enc) (C := Try.checked) false ⟨#[], #[.int .i64 0, .slice none 0 0, .agg #[.int .i64 0, .int .i64 0, .int .i64 0, .int .i64 0, .int .i64 0, .int .i64 0, .int .i64 0, .int .i64 0], .agg #[.int .i64 0, .int .i64 0, .int .i64 0, .int .i64 0], .int .i64 0, .int .i64 0, .agg #[.int .i64 0, .int .i64 0, .int .i64 0, .slice none 0 0]], []⟩ 8 (by kernel_rfl) (by kernel_rfl) (by kernel_rfl) (by kernel_rfl)) ?_
  intro W base args ds gs before hval0 hW hcnd _
  have hval : ∀ (j : Nat) t v, Try.f4.params[j]? = some t → args[j]? = some v → Value.okWide Try.prog W .any base t v := hval0
  have hW' := hW
  obtain ⟨p, q, hA0, hV, rfl, hfz, hnd⟩ := hW
  have hA : DataW.TrodAll enc Try.prog W 0 (fun _ => true) true Try.f4.params.toList args.toList ds p := hA0
  rw [Try.params4] at hA hval
  obtain ⟨v0, as0, d0, ds0, p0, q0, e0, rfl, rfl, h0, hA⟩ := trodAll_cons hA
  obtain ⟨v1, as1, d1, ds1, p1, q1, rfl, rfl, rfl, h1, hA⟩ := trodAll_cons hA
  obtain ⟨v2, as2, d2, ds2, p2, q2, rfl, rfl, rfl, h2, hA⟩ := trodAll_cons hA
  obtain ⟨v3, as3, d3, ds3, p3, q3, rfl, rfl, rfl, h3, hA⟩ := trodAll_cons hA
  obtain ⟨v4, as4, d4, ds4, p4, q4, rfl, rfl, rfl, h4, hA⟩ := trodAll_cons hA
  obtain ⟨v5, as5, d5, ds5, p5, q5, rfl, rfl, rfl, h5, hA⟩ := trodAll_cons hA
  obtain ⟨v6, as6, d6, ds6, p6, q6, rfl, rfl, rfl, h6, hA⟩ := trodAll_cons hA
  obtain ⟨rfl, rfl, rfl⟩ := trodAll_nil hA
  obtain rfl : args = #[v0, v1, v2, v3, v4, v5, v6] := by cases args; simp_all
  obtain ⟨rfl, rfl⟩ := trodVars_none hV
  obtain ⟨x0, rfl, b0⟩ := open_i64 (hval 0 3 v0 rfl rfl) h0
  obtain ⟨x1, b1, c1⟩ := open_tris (hval 1 22 v1 rfl rfl) h1
  obtain ⟨x2, b2, rfl, c2⟩ := open_gains (hval 2 23 v2 rfl rfl) h2
  obtain ⟨x3, b3, rfl, c3⟩ := open_four (hval 3 28 v3 rfl rfl) h3
  obtain ⟨x4, rfl, b4⟩ := open_i64 (hval 4 3 v4 rfl rfl) h4
  obtain ⟨x5, rfl, b5⟩ := open_i64 (hval 5 3 v5 rfl rfl) h5
  obtain ⟨x6, u6, rfl, b6⟩ := open_step (hval 6 54 v6 rfl rfl) h6
  refine (weights_any x0 x1 v1 x2 x3 x4 x5 x6 u6 W b0 b1 c1 b2 c2 b3 c3 b4 b5 b6).mono fun e W' ⟨he, hb⟩ => ⟨_, he, ?_⟩
  exact post_law Try.laidOut (by kernel_rfl) rfl rfl Try.underlying4 rfl hW' hb
theorem weights_holds : Rows.ProofWeightsSaid :=
  OpenClaim.holds_of_wide 4 Try.f4 rfl rfl rfl rfl rfl rfl rfl ⟨rfl, rfl, rfl, rfl, rfl⟩ rfl rfl rfl rfl rfl (by kernel_rfl) Try.func4 (by kernel_rfl)
    (of_decide_eq_true (by kernel_rfl)) (by unfold Func.isWrapper; first | (rw [if_pos (by decide +kernel)]; kernel_rfl) | (rw [if_neg (by decide +kernel)]; exact ⟨rfl, rfl⟩))
    (fun os started H enc _ => weights_lifted os started H enc)
end Go.Proofs.Ytppfdjjhloaopaa
