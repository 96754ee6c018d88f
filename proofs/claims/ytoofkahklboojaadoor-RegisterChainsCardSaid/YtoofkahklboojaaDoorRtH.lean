/- Register: the walk of RegisterChains. Conditions: how the truth and the global tables lie in memory; that integers are of 64 bits. -/
import Derived.Test.YtoofkahklboojaaDoorRkZS
import Derived.Test.YtoofkahklboojaaDoorRkQ
import Derived.Test.YtoofkahklboojaaDoorRhF
namespace Go.Proofs.YtoofkahklboojaaDoor
open Go.RowKit

theorem apply_app2 {m : MotD} (hm : motOk m = true) {x y : Int} (hx : -5000 ≤ x ∧ x ≤ 5000) (hy : -5000 ≤ y ∧ y ≤ 5000) : applyX m x y = appX m x y ∧ applyY m x y = appY m x y := by
  have h : (motOk m && inShift x && inShift y) = true := by rw [hm]; simp [inShift, isInN]; omega
  unfold applyX applyY
  rw [if_pos h, if_pos h]; exact ⟨rfl, rfl⟩
theorem motIn_ok {n : MotD} (h : motIn n) : motOk n = true := by
  unfold motIn at h
  rw [mot_iff]; omega
/-- Apply within bounds -/
theorem apply_at (m : MotD) (x y : Int) (w : World) (hG : Glob w) (hm : motOk m = true) (hx : -5000 ≤ x ∧ x ≤ 5000) (hy : -5000 ≤ y ∧ y ≤ 5000) : Calls Tryd.prog 28 #[motV m, iV x, iV y] w (Ret (.tuple #[iV (appX m x y), iV (appY m x y)]) w) := by
  have h := apply_any m x y w hG
  have e := apply_app2 hm hx hy
  rwa [e.1, e.2] at h
def truU (tols : List Int) (ers : List (Int × Int × Int × Int)) : TruthD := ⟨[], [], (0, 0, 0), tols, ers⟩
def truN (nx : Int × Int × Int) : TruthD := ⟨[], [], nx, [], []⟩
set_option maxRecDepth 100000 in
set_option maxHeartbeats 4000000 in
theorem chainl_any (t : TruthD) (mv fv tv ev : Value) (nx : Int × Int × Int) (tols : List Int) (tlv : Value) (ers : List (Int × Int × Int × Int)) (erv : Value) (w : World) (ht : TruthAt w mv fv tv ev t) (h64 : Truth64 t) (kn : i64B nx.1 ∧ i64B nx.2.1 ∧ i64B nx.2.2)
    (hl : IntsIn w.cell? tlv tols) (kl : ∀ x ∈ tols, i64B x) (hq : RecIn quadC (0, 0, 0, 0) 4 w.cell? erv ers) (kq : ∀ p ∈ ers, i64B p.1 ∧ i64B p.2.1 ∧ i64B p.2.2.1 ∧ i64B p.2.2.2) (hG0 : Glob w) :
    Calls Tryd.prog 10 #[truthV mv fv tv ev t, .agg #[iV nx.1, iV nx.2.1, iV nx.2.2], tlv, erv] w (Ret (.bool true) w) := by
  have hN : motIn (wayD (truN nx)) := way_in (truN nx)
  have hNok := motIn_ok hN
  have hMok := way_ok t
  have hw := way_in t
  have hnm := nMarks_in t
  have hval := surv_valid t
  have hblen := valid_len hval.2
  have HSV := hide (fun (W : World) hb => surveys_any mv fv tv ev t W (ht.below hb) h64)
  have HWY := hide (fun (W : World) => way_any mv fv tv ev t W h64.mot (by obtain ⟨a, c, e, -⟩ := ht.marks; exact ⟨a, _, c, e⟩) (by obtain ⟨a, c, e, -⟩ := ht.finds; exact ⟨a, _, c, e⟩) (by obtain ⟨a, c, e, -⟩ := ht.tols; exact ⟨a, _, c, e⟩) (by obtain ⟨a, c, e, -⟩ := ht.errs; exact ⟨a, _, c, e⟩))
  have HWN := hide (fun (W : World) => way_any (.slice none 0 0) (.slice none 0 0) (.slice none 0 0) (.slice none 0 0) (truN nx) W kn ⟨_, _, _, rfl⟩ ⟨_, _, _, rfl⟩ ⟨_, _, _, rfl⟩ ⟨_, _, _, rfl⟩)
  have hU : TruthAt w (.slice none 0 0) (.slice none 0 0) tlv erv (truU tols ers) := ⟨RecIn.nil _, RecIn.nil _, hl, hq⟩
  have h00 : i64B 0 := ⟨by decide, by decide⟩
  have hU64 : Truth64 (truU tols ers) := ⟨fun p h => (by cases h), fun p h => (by cases h), ⟨h00, h00, h00⟩, kl, kq⟩
  have HA0 := hide (fun (W : World) (hb : Below w.heap.size w W) => apply_at (wayD t) 0 0 W (hG0.later hb) hMok (by decide) (by decide))
  have ha0 := app_in t 0 0 (by decide) (by decide)
  have HB0 := hide (fun (W : World) (hb : Below w.heap.size w W) => apply_at (wayD (truN nx)) (appX (wayD t) 0 0) (appY (wayD t) 0 0) W (hG0.later hb) hNok (by omega) (by omega))
  have HA1 := hide (fun (k : Nat) (W : World) (hb : Below w.heap.size w W) => apply_at (wayD t) (markX t k) (markY t k) W (hG0.later hb) hMok (by have := mark_in t k; omega) (by have := mark_in t k; omega))
  have HB1 := hide (fun (k : Nat) (W : World) (hb : Below w.heap.size w W) => apply_at (wayD (truN nx)) (appX (wayD t) (markX t k) (markY t k)) (appY (wayD t) (markX t k) (markY t k)) W (hG0.later hb) hNok (by have h := mark_in t k; have := app_in t _ _ h.1 h.2; omega) (by have h := mark_in t k; have := app_in t _ _ h.1 h.2; omega))
  have HMS := hide (fun (k : Nat) (hk : k < nMarks t) (W : World) (hb : Below w.heap.size w W) => (show Calls Tryd.prog 33 #[truthV (.slice none 0 0) (.slice none 0 0) tlv erv (truU tols ers), iV ((survB t).getD k dot0).id, iV k, iV 1, iV (thirdX (wayD t) (wayD (truN nx)) (markX t k) (markY t k)), iV (thirdY (wayD t) (wayD (truN nx)) (markX t k) (markY t k))] W (Ret (dotV (markC t (truU tols ers) (wayD (truN nx)) k)) W) by
    have h := mark_in t k
    have h3 := third_in t hN _ _ h.1 h.2
    have e : ((survB t).getD k dot0).id = 3 * k := by rw [survB_at t hk]; rfl
    rw [e]
    exact meas1_any _ _ _ _ _ (3 * k) k _ _ W (by omega) ⟨by omega, by omega⟩ ⟨by omega, by omega⟩ (hU.below hb) hU64))
  have HMR := hide (fun (k : Nat) (hk : k < (survB t).length) => survB_more t hk)
  have hnl := survB_nlen t
  have HV := hide (survC_valid t (truU tols ers) hN)
  have HF1 := hide (way_fits t)
  have HF2 := hide (chain_bc t (truU tols ers) hN)
  have HF3 := hide (chain_ac t (truU tols ers) hN)
  have HTH : Hid (thenD (wayD t) (wayD (truN nx)) = ⟨((wayD t).turn + (wayD (truN nx)).turn) % 4, appX (wayD (truN nx)) (appX (wayD t) 0 0) (appY (wayD t) 0 0), appY (wayD (truN nx)) (appX (wayD t) 0 0) (appY (wayD t) 0 0)⟩) := hide rfl
  have HC : Hid (∀ k, (List.range (k + 1)).map (markC t (truU tols ers) (wayD (truN nx))) = (List.range k).map (markC t (truU tols ers) (wayD (truN nx))) ++ [markC t (truU tols ers) (wayD (truN nx)) k]) := hide fun k => by rw [List.range_succ, List.map_append]; rfl
  have HCE : Hid ((List.range (nMarks t)).map (markC t (truU tols ers) (wayD (truN nx))) = survC t (truU tols ers) (wayD (truN nx))) := hide rfl
  have HTX : Hid (∀ k, appX (wayD (truN nx)) (appX (wayD t) (markX t k) (markY t k)) (appY (wayD t) (markX t k) (markY t k)) = thirdX (wayD t) (wayD (truN nx)) (markX t k) (markY t k) ∧ appY (wayD (truN nx)) (appX (wayD t) (markX t k) (markY t k)) (appY (wayD t) (markX t k) (markY t k)) = thirdY (wayD t) (wayD (truN nx)) (markX t k) (markY t k)) := hide fun k => ⟨rfl, rfl⟩
  have HMY := hide (fun (k : Nat) (hk : k < t.marks.length) => (show markX t k = pickR (t.marks.getD k (0, 0)).1 401 - 200 ∧ markY t k = pickR (t.marks.getD k (0, 0)).2 401 - 200 by unfold markX markY; rw [if_pos hk, if_pos hk]; exact ⟨rfl, rfl⟩))
  have HMN := hide (fun (k : Nat) (hk : ¬ k < t.marks.length) => (show markX t k = 0 ∧ markY t k = 0 by unfold markX markY; rw [if_neg hk, if_neg hk]; exact ⟨rfl, rfl⟩))
  have hmk := ht.marks
  have HPK := hide (fun (k : Nat) (hk : k < t.marks.length) => (show (∀ W, Calls Tryd.prog 15 #[iV (t.marks.getD k (0, 0)).1, iV 401] W (Ret (iV (pickR (t.marks.getD k (0, 0)).1 401)) W)) ∧ ∀ W, Calls Tryd.prog 15 #[iV (t.marks.getD k (0, 0)).2, iV 401] W (Ret (iV (pickR (t.marks.getD k (0, 0)).2 401)) W) from
    have h := h64.marks _ (getD_mem t.marks k (d := (0, 0)) hk); ⟨fun W => pickl_any _ _ W h.1 (by decide) (by decide), fun W => pickl_any _ _ W h.2 (by decide) (by decide)⟩))
  obtain ⟨ma, mc, rfl, hml1, hml2, hmc⟩ := hmk
  obtain ⟨fa, fc, rfl, -, -, -⟩ := id' ht.finds
  obtain ⟨ta, tc, rfl, -, -, -⟩ := id' ht.tols
  obtain ⟨ea, ec, rfl, -, -, -⟩ := id' ht.errs
  obtain ⟨tla, tlc, rfl, -, -, -⟩ := id' hl
  obtain ⟨era, erc, rfl, -, -, -⟩ := id' hq
  have HMC := hide hmc
  have hml : (t.marks.length : Int) ≤ 9223372036854775807 := by omega
  obtain ⟨n0, n1, n2⟩ := nx
  obtain ⟨i1, i2, -⟩ := hw
  obtain ⟨j1, j2, -⟩ := hN
  have u3 : IntKind.i64.wrap ((wayD t).turn + (wayD (truN (n0, n1, n2))).turn) = (wayD t).turn + (wayD (truN (n0, n1, n2))).turn := IntWalk.i64_in _ (by omega)
  have u4 : ((wayD t).turn + (wayD (truN (n0, n1, n2))).turn).tmod 4 = ((wayD t).turn + (wayD (truN (n0, n1, n2))).turn) % 4 := Int.tmod_eq_emod_of_nonneg (by omega)
  have u5 : IntKind.i64.wrap (((wayD t).turn + (wayD (truN (n0, n1, n2))).turn) % 4) = ((wayD t).turn + (wayD (truN (n0, n1, n2))).turn) % 4 := IntWalk.i64_in _ (by omega)
  clear hmc hml1 hml2 hU hU64 hNok hMok ha0 hval h64 hl kl hq kq kn i1 i2 j1 j2 h00
  generalize survC t (truU tols ers) (wayD (truN (n0, n1, n2))) = C at *
  generalize markC t (truU tols ers) (wayD (truN (n0, n1, n2))) = MCf at *
  rw [HTH.out] at HF3
  clear HTH
  generalize survA t = A at *
  generalize survB t = B at *
  generalize hMM : wayD t = M at *
  generalize hNN : wayD (truN (n0, n1, n2)) = N at *
  clear hMM hNN
  obtain ⟨mt, mx, my⟩ := M
  obtain ⟨nt, nx, ny⟩ := N
  dsimp only at u3 u4 u5
  go_enter Tryd.func10, Tryd.ntmps10
  go_wp2_with fail
  generalize hX1 : World.alloc w _ = X1
  have zX1 : X1.heap.size = w.heap.size + 1 := by rw [← hX1]; simp
  have bX1 : Below w.heap.size w X1 := by rw [← hX1]; exact bal w _
  have bT_1 : Blk X1 (w.heap.size) [.slice ma t.marks.length mc, .slice fa t.finds.length fc, iV t.mot.1, iV t.mot.2.1, iV t.mot.2.2, .slice ta t.tols.length tc, .slice ea t.errs.length ec] 28 := by rw [← hX1]; exact Blk.newA w _ (by first | rfl | simp)
  generalize hX2 : World.alloc X1 _ = X2
  have zX2 : X2.heap.size = w.heap.size + 1 + 1 := by rw [← hX2]; simp [zX1]
  have bX2 : Below X1.heap.size X1 X2 := by rw [← hX2]; exact bal X1 _
  have bP : Blk X2 (w.heap.size + 1) [iV n0, iV n1, iV n2] 24 := by rw [← hX2, ← zX1]; exact Blk.newA X1 _ (by first | rfl | simp)
  have bT := bT_1.later bX2
  have Xb := below2 (bX1) bX2
  have Xz := zX2
  clear hX1 zX1 bX1 hX2 zX2 bX2 bT_1
  refine (sane_any _ (hG0.later Xb)).mono ?_
  rintro e w1 ⟨rfl, hb1⟩
  have bT1 := bT.later hb1
  have bP1 := bP.later hb1
  have hbw1 := below2 Xb hb1
  have t0 := (bT1).cell 0 rfl
  have t1 := (bT1).cell 1 rfl
  have t2 := (bT1).cell 2 rfl
  have t3 := (bT1).cell 3 rfl
  have t4 := (bT1).cell 4 rfl
  have t5 := (bT1).cell 5 rfl
  have t6 := (bT1).cell 6 rfl
  go_wp2_with fail
  refine (HSV.out _ hbw1).mono ?_
  rintro e w2 ⟨va, vb, rfl, ⟨hA0, hB0⟩, hb2⟩
  have DA : DotsAt w2 va A := hA0.at
  have DB : DotsAt w2 vb B := hB0.at
  have bT2 := bT1.later hb2
  have bP2 := bP1.later hb2
  have hbw2 := below2 hbw1 hb2
  have hG2 := hG0.later hbw2
  obtain ⟨aa, ac, rfl, -, -, -⟩ := id DA
  obtain ⟨ba, bc, rfl, -, -, hbc⟩ := id DB
  have HBC := hide hbc
  clear hA0 hB0 t0 t1 t2 t3 t4 t5 t6 hbc
  have t0 := (bT2).cell 0 rfl
  have t1 := (bT2).cell 1 rfl
  have t2 := (bT2).cell 2 rfl
  have t3 := (bT2).cell 3 rfl
  have t4 := (bT2).cell 4 rfl
  have t5 := (bT2).cell 5 rfl
  have t6 := (bT2).cell 6 rfl
  go_wp2_with fail
  refine (HWY.out _).mono ?_
  rintro e w3 ⟨rfl, hb3⟩
  have bT3 := bT2.later hb3
  have bP3 := bP2.later hb3
  clear t0 t1 t2 t3 t4 t5 t6
  have p0 := bP3.cell 0 rfl
  have p1 := bP3.cell 1 rfl
  have p2 := bP3.cell 2 rfl
  have lP := bP3.lt
  go_wp2_with fail
  generalize hXX : World.alloc w3 _ = W4
  have hb4 : Below w3.heap.size w3 W4 := by rw [← hXX]; exact bal w3 _
  have bM : Blk W4 w3.heap.size [iV mt, iV mx, iV my] 32 := by rw [← hXX]; exact Blk.newA w3 _ rfl
  have bT4 := bT3.later hb4
  have hb24 := below2 hb3 hb4
  generalize w3.heap.size = RM at *
  clear hXX lP p0 p1 p2
  refine (HWN.out _).mono ?_
  rintro e w5 ⟨rfl, hb5⟩
  have bM5 := bM.later hb5
  have bT5 := bT4.later hb5
  have hb25 := below2 hb24 hb5
  clear bM bT4
  have m0 := bM5.cell 0 rfl
  have m1 := bM5.cell 1 rfl
  have m2 := bM5.cell 2 rfl
  have lM := bM5.lt
  go_wp2_with fail
  generalize hXX : World.alloc w5 _ = W6
  have hb6 : Below w5.heap.size w5 W6 := by rw [← hXX]; exact bal w5 _
  have bN : Blk W6 w5.heap.size [iV nt, iV nx, iV ny] 32 := by rw [← hXX]; exact Blk.newA w5 _ rfl
  have bM6 := bM5.later hb6
  have bT6 := bT5.later hb6
  have hb26 := below2 hb25 hb6
  have hbw6 := hbw2.trans (hb26.mono hbw2.size)
  generalize w5.heap.size = RN at *
  clear hXX lM m0 m1 m2 bM5 bT5
  refine (HA0.out _ hbw6).mono ?_
  rintro e w7 ⟨rfl, hb7⟩
  have bM7 := bM6.later hb7
  have bN7 := bN.later hb7
  have bT7 := bT6.later hb7
  have hb27 := below2 hb26 hb7
  have hbw7 := below2 hbw6 hb7
  have r0 := bN7.cell 0 rfl
  have r1 := bN7.cell 1 rfl
  have r2 := bN7.cell 2 rfl
  go_wp2_with fail
  refine (HB0.out _ hbw7).mono ?_
  rintro e w8 ⟨rfl, hb8⟩
  have bM8 := bM7.later hb8
  have bN8 := bN7.later hb8
  have bT8 := bT7.later hb8
  have hb28 := below2 hb27 hb8
  have hbw8 := below2 hbw7 hb8
  clear r0 r1 r2 bM6 bM7 bN bN7 bT6 bT7
  have m0 := bM8.cell 0 rfl
  have r0 := bN8.cell 0 rfl
  go_wp2_with fail
  generalize hXX : World.alloc w8 _ = W9
  have hb9 : Below w8.heap.size w8 W9 := by rw [← hXX]; exact bal w8 _
  have bO : Blk W9 w8.heap.size [iV ((mt + nt) % 4), iV (appX ⟨nt, nx, ny⟩ (appX ⟨mt, mx, my⟩ 0 0) (appY ⟨mt, mx, my⟩ 0 0)), iV (appY ⟨nt, nx, ny⟩ (appX ⟨mt, mx, my⟩ 0 0) (appY ⟨mt, mx, my⟩ 0 0))] 32 := by rw [← hXX]; exact Blk.newA w8 _ rfl
  have bM9 := bM8.later hb9
  have bN9 := bN8.later hb9
  have bT9 := bT8.later hb9
  have hb29 := below2 hb28 hb9
  have hbw9 := below2 hbw8 hb9
  generalize w8.heap.size = RO at *
  clear hXX m0 r0 bM8 bN8 bT8 u3 u4 u5
  go_loopw [17, 18] (fun v i wr => ∃ k : Nat, k ≤ nMarks t ∧ i = .int .i64 k ∧ OwnR wr W9.heap.size 53 4 v (((List.range k).map MCf).map dotC) ∧ Below W9.heap.size W9 wr) (fun _ i _ => nMarks t - (intOf i).toNat)
  case atStart => exact ⟨0, by omega, rfl, OwnR.nil _ _ _ _, Below.refl _ _⟩
  case round =>
    obtain ⟨k, hk, rfl, hown, hbr⟩ := hrel
    have hb2r := below2 hb29 hbr
    have hbwr := below2 hbw9 hbr
    have bMr := bM9.later hbr
    have bNr := bN9.later hbr
    have bTr := bT9.later hbr
    by_cases hlt : k < nMarks t
    · have hkB : k < B.length := by omega
      obtain ⟨bl, o, heq, hck⟩ := HBC.out k hkB
      subst heq
      have hkd : decide (k < B.length) = true := by simpa using hkB
      have h19 : decide ((B.getD k dot0).id ≤ 19) = true := by simpa using (HMR.out k hkB).2 hlt
      have HCK := hide (fun (W : World) (hb : Below w2.heap.size w2 W) => (show W.cell? ⟨bl, o + k * 4, none⟩ = some (iV (B.getD k dot0).id) from keep hb (hck 0 _ rfl)))
      have HMSk := hide (HMS.out k hlt)
      have HB1k := hide (HB1.out k)
      have HTXk := HTX.out k
      rw [HTXk.1, HTXk.2] at HB1k
      have HA1k := hide (HA1.out k)
      have HCk := hide (HC.out k)
      have HLN : Hid (((List.range k).map MCf).length < 1000000) := hide (by simp; omega)
      generalize (List.range k).map MCf = L at *
      generalize thirdX ⟨mt, mx, my⟩ ⟨nt, nx, ny⟩ (markX t k) (markY t k) = TX at *
      generalize thirdY ⟨mt, mx, my⟩ ⟨nt, nx, ny⟩ (markX t k) (markY t k) = TY at *
      generalize appX ⟨mt, mx, my⟩ (markX t k) (markY t k) = AX at *
      generalize appY ⟨mt, mx, my⟩ (markX t k) (markY t k) = AY at *
      generalize MCf k = z at *
      generalize (B.getD k dot0).id = Z at *
      obtain ⟨zi, zx, zy, zt⟩ := z
      have e0 := HCK.out wr hb2r
      clear hck HTXk
      by_cases hm : k < t.marks.length
      · have hmd : decide (k < t.marks.length) = true := by simpa using hm
        obtain ⟨gb, gg, heq2, hcm⟩ := HMC.out k hm
        subst heq2
        have c0 := bwc (show wr.cell? ⟨gb, gg + k * 2, none⟩ = some (iV (t.marks.getD k (0, 0)).1) from keep hbwr (hcm 0 _ rfl))
        have c1 := bwc (show wr.cell? ⟨gb, gg + k * 2 + 1, none⟩ = some (iV (t.marks.getD k (0, 0)).2) from keep hbwr (hcm 1 _ rfl))
        obtain ⟨hpx, hpy⟩ := HPK.out k hm
        have hmy := HMY.out k hm
        rw [hmy.1, hmy.2] at HA1k
        have px := pickR_in (t.marks.getD k (0, 0)).1 (n := 401) (by decide)
        have py := pickR_in (t.marks.getD k (0, 0)).2 (n := 401) (by decide)
        have HPX := hide hpx
        have HPY := hide hpy
        generalize pickR (t.marks.getD k (0, 0)).1 401 = P1 at *
        generalize pickR (t.marks.getD k (0, 0)).2 401 = P2 at *
        generalize (t.marks.getD k (0, 0)).1 = E1 at *
        generalize (t.marks.getD k (0, 0)).2 = E2 at *
        obtain ⟨px1, px2⟩ := px
        obtain ⟨py1, py2⟩ := py
        have u1 : IntKind.i64.wrap (P1 - 200) = P1 - 200 := IntWalk.i64_in _ (by omega)
        have u2 : IntKind.i64.wrap (P2 - 200) = P2 - 200 := IntWalk.i64_in _ (by omega)
        clear hcm hpx hpy hmy
        have t0 := bTr.cell 0 rfl
        go_wp2_with fail
        have t0' := bwc t0
        have m0 := bwc (bMr.cell 0 rfl)
        have m1 := bwc (bMr.cell 1 rfl)
        have m2 := bwc (bMr.cell 2 rfl)
        refine wp_region_bw (by kernel_rfl) (by kernel_rfl) ?_
        repeat (go_big_quiet_step (with_reducible first | exact quiet (HPX.out _) | exact quiet (HPY.out _) | exact quiet (HA1k.out _ (below2 hbwr (Bw.h _)))))
        refine wpQuiet_nil ?_
        rintro _ ⟨i0, rfl⟩
        have hbA := i0.h
        generalize i0.W = WA at *
        clear t0 t0' m0 m1 m2 c0 c1 e0
        have hbrA := below2 hbr hbA
        have hb2A := below2 hb2r hbA
        have hbwA := below2 hbwr hbA
        have r0 := (bNr.later hbA).cell 0 rfl
        have r1 := (bNr.later hbA).cell 1 rfl
        have r2 := (bNr.later hbA).cell 2 rfl
        go_wp2_with fail
        refine (HB1k.out _ hbwA).mono ?_
        rintro e wB ⟨rfl, hbB⟩
        have hbrB := below2 hbrA hbB
        have hbwB := below2 hbwA hbB
        have e0 := HCK.out wB (below2 hb2A hbB)
        clear r0 r1 r2
        go_wp2_with fail
        refine (HMSk.out _ hbwB).mono ?_
        rintro e wC ⟨rfl, hbC⟩
        have hbrC := below2 hbrB hbC
        have hownC := hown.later' (below2 hbA (below2 hbB hbC))
        have hsz := hbrC.size
        clear e0
        go_wp2_with (at_builtin; refine app_recM kindDot infoDot rfl (by decide) Tryd.underlying30 (by decide) rfl _ _ rfl W9.heap.size _ _ rfl hownC ⟨zi, zx, zy, zt⟩ _ rfl rfl HLN.out hsz ?_; intro g cc wD hownD hED hzD)
        go_roundw
        case rel => exact ⟨k + 1, by omega, by go_num, by rw [HCk.out]; exact hownD, hbrC.trans (hED.below hsz)⟩
        case measure => simp [intOf]; omega
      · have hmd : decide (k < t.marks.length) = false := by simpa using hm
        have hmy := HMN.out k hm
        rw [hmy.1, hmy.2] at HA1k
        have t0 := bTr.cell 0 rfl
        have m0 := bMr.cell 0 rfl
        have m1 := bMr.cell 1 rfl
        have m2 := bMr.cell 2 rfl
        clear hmy
        go_wp2_with fail
        refine (HA1k.out _ hbwr).mono ?_
        rintro e WA ⟨rfl, hbA⟩
        clear t0 m0 m1 m2 e0
        have hbrA := below2 hbr hbA
        have hb2A := below2 hb2r hbA
        have hbwA := below2 hbwr hbA
        have r0 := (bNr.later hbA).cell 0 rfl
        have r1 := (bNr.later hbA).cell 1 rfl
        have r2 := (bNr.later hbA).cell 2 rfl
        go_wp2_with fail
        refine (HB1k.out _ hbwA).mono ?_
        rintro e wB ⟨rfl, hbB⟩
        have hbrB := below2 hbrA hbB
        have hbwB := below2 hbwA hbB
        have e0 := HCK.out wB (below2 hb2A hbB)
        clear r0 r1 r2
        go_wp2_with fail
        refine (HMSk.out _ hbwB).mono ?_
        rintro e wC ⟨rfl, hbC⟩
        have hbrC := below2 hbrB hbC
        have hownC := hown.later' (below2 hbA (below2 hbB hbC))
        have hsz := hbrC.size
        clear e0
        go_wp2_with (at_builtin; refine app_recM kindDot infoDot rfl (by decide) Tryd.underlying30 (by decide) rfl _ _ rfl W9.heap.size _ _ rfl hownC ⟨zi, zx, zy, zt⟩ _ rfl rfl HLN.out hsz ?_; intro g cc wD hownD hED hzD)
        go_roundw
        case rel => exact ⟨k + 1, by omega, by go_num, by rw [HCk.out]; exact hownD, hbrC.trans (hED.below hsz)⟩
        case measure => simp [intOf]; omega
    · obtain rfl : k = nMarks t := by omega
      by_cases hkB : nMarks t < B.length
      · obtain ⟨bl, o, heq, hck⟩ := HBC.out (nMarks t) hkB
        subst heq
        have hkd : decide (nMarks t < B.length) = true := by simpa using hkB
        have h19 : decide ((B.getD (nMarks t) dot0).id ≤ 19) = false := by
          have := HMR.out (nMarks t) hkB
          simp at this ⊢
          omega
        have e0 : wr.cell? ⟨bl, o + nMarks t * 4, none⟩ = some (iV (B.getD (nMarks t) dot0).id) := keep hb2r (hck 0 _ rfl)
        generalize (B.getD (nMarks t) dot0).id = Z at *
        clear hck
        rw [HCE.out] at hown
        have DC := (RecIn.of_own (d := dot0) hown (fun _ => rfl) (Nat.le_refl _)).at
        obtain ⟨ca, cc, rfl, -, -, -⟩ := id DC
        have HVC := hide (fun (W : World) hb => rvalid_any C _ W (DC.below (W := W) hb))
        rw [HV.out] at HVC
        have HF1C := hide (fun (W : World) hb => fitting_any A B _ _ ⟨mt, mx, my⟩ W (DA.below hb) (DB.below hb) (hG2.later hb))
        rw [HF1.out] at HF1C
        have HF2C := hide (fun (W : World) hb hr => fitting_any B C _ _ ⟨nt, nx, ny⟩ W (DB.below hb) (DC.below (W := W) hr) (hG2.later hb))
        rw [HF2.out] at HF2C
        have HF3D := hide (fun (W : World) hb hr => fitting_any A C _ _ ⟨(mt + nt) % 4, appX ⟨nt, nx, ny⟩ (appX ⟨mt, mx, my⟩ 0 0) (appY ⟨mt, mx, my⟩ 0 0), appY ⟨nt, nx, ny⟩ (appX ⟨mt, mx, my⟩ 0 0) (appY ⟨mt, mx, my⟩ 0 0)⟩ W (DA.below hb) (DC.below (W := W) hr) (hG2.later hb))
        rw [HF3.out] at HF3D
        have bOr := bO.later hbr
        go_wp2_with fail
        refine (HVC.out _ (Below.refl _ _)).mono ?_
        rintro e x1 ⟨rfl, hx1⟩
        have hr1 := hx1
        have m0 := (bMr.later hr1).cell 0 rfl
        have m1 := (bMr.later hr1).cell 1 rfl
        have m2 := (bMr.later hr1).cell 2 rfl
        go_wp2_with fail
        refine (HF1C.out _ (below2 hb2r hr1)).mono ?_
        rintro e x2 ⟨rfl, hx2⟩
        have hr2 := below2 hr1 hx2
        clear m0 m1 m2
        have m0 := (bNr.later hr2).cell 0 rfl
        have m1 := (bNr.later hr2).cell 1 rfl
        have m2 := (bNr.later hr2).cell 2 rfl
        go_wp2_with fail
        refine (HF2C.out _ (below2 hb2r hr2) hr2).mono ?_
        rintro e x3 ⟨rfl, hx3⟩
        have hr3 := below2 hr2 hx3
        clear m0 m1 m2
        have m0 := (bOr.later hr3).cell 0 rfl
        have m1 := (bOr.later hr3).cell 1 rfl
        have m2 := (bOr.later hr3).cell 2 rfl
        go_wp2_with fail
        refine (HF3D.out _ (below2 hb2r hr3) hr3).mono ?_
        rintro e x4 ⟨rfl, hx4⟩
        go_wp2_with fail
        go_ret
        exact ⟨rfl, hbw2.trans ((below2 (below2 hb2r hr3) hx4).mono hbw2.size)⟩
      · have hkd : decide (nMarks t < B.length) = false := by simpa using hkB
        rw [HCE.out] at hown
        have DC := (RecIn.of_own (d := dot0) hown (fun _ => rfl) (Nat.le_refl _)).at
        obtain ⟨ca, cc, rfl, -, -, -⟩ := id DC
        have HVC := hide (fun (W : World) hb => rvalid_any C _ W (DC.below (W := W) hb))
        rw [HV.out] at HVC
        have HF1C := hide (fun (W : World) hb => fitting_any A B _ _ ⟨mt, mx, my⟩ W (DA.below hb) (DB.below hb) (hG2.later hb))
        rw [HF1.out] at HF1C
        have HF2C := hide (fun (W : World) hb hr => fitting_any B C _ _ ⟨nt, nx, ny⟩ W (DB.below hb) (DC.below (W := W) hr) (hG2.later hb))
        rw [HF2.out] at HF2C
        have HF3D := hide (fun (W : World) hb hr => fitting_any A C _ _ ⟨(mt + nt) % 4, appX ⟨nt, nx, ny⟩ (appX ⟨mt, mx, my⟩ 0 0) (appY ⟨mt, mx, my⟩ 0 0), appY ⟨nt, nx, ny⟩ (appX ⟨mt, mx, my⟩ 0 0) (appY ⟨mt, mx, my⟩ 0 0)⟩ W (DA.below hb) (DC.below (W := W) hr) (hG2.later hb))
        rw [HF3.out] at HF3D
        have bOr := bO.later hbr
        go_wp2_with fail
        refine (HVC.out _ (Below.refl _ _)).mono ?_
        rintro e x1 ⟨rfl, hx1⟩
        have hr1 := hx1
        have m0 := (bMr.later hr1).cell 0 rfl
        have m1 := (bMr.later hr1).cell 1 rfl
        have m2 := (bMr.later hr1).cell 2 rfl
        go_wp2_with fail
        refine (HF1C.out _ (below2 hb2r hr1)).mono ?_
        rintro e x2 ⟨rfl, hx2⟩
        have hr2 := below2 hr1 hx2
        clear m0 m1 m2
        have m0 := (bNr.later hr2).cell 0 rfl
        have m1 := (bNr.later hr2).cell 1 rfl
        have m2 := (bNr.later hr2).cell 2 rfl
        go_wp2_with fail
        refine (HF2C.out _ (below2 hb2r hr2) hr2).mono ?_
        rintro e x3 ⟨rfl, hx3⟩
        have hr3 := below2 hr2 hx3
        clear m0 m1 m2
        have m0 := (bOr.later hr3).cell 0 rfl
        have m1 := (bOr.later hr3).cell 1 rfl
        have m2 := (bOr.later hr3).cell 2 rfl
        go_wp2_with fail
        refine (HF3D.out _ (below2 hb2r hr3) hr3).mono ?_
        rintro e x4 ⟨rfl, hx4⟩
        go_wp2_with fail
        go_ret
        exact ⟨rfl, hbw2.trans ((below2 (below2 hb2r hr3) hx4).mono hbw2.size)⟩
end Go.Proofs.YtoofkahklboojaaDoor
