/- Register: the walk of Surveys. Conditions: how the truth lies in memory; that its integers are of 64 bits. -/
import Derived.Test.YtoofkahklboojaaDoorRkP
namespace Go.Proofs.YtoofkahklboojaaDoor
open Go.RowKit

/-- two lists of points that grow, apart from each other; the truth and the motion -/
structure SurvG (w : World) (MB : Nat) (tc mc : List Value) (va vb : Value) (la lb : List DotD) (W : World) : Prop where
  a : OwnR W w.heap.size 53 4 va (la.map dotC)
  b : OwnR W w.heap.size 53 4 vb (lb.map dotC)
  ap : ∀ g, va.ownBlock = some g → vb.ownBlock ≠ some g
  T : Blk W w.heap.size tc 28
  M : Blk W MB mc 32
  hb : Below w.heap.size w W
theorem OwnR.ltB {w : World} {B k : Nat} {e : TypeId} {v : Value} {L : List (List Value)} (h : OwnR w B e k v L) {g : Nat} (hg : v.ownBlock = some g) : B ≤ g ∧ g < w.heap.size := by
  rcases h.form with ⟨rfl, -⟩ | ⟨g', c, cur, rfl, h1, h2, -⟩
  · cases hg
  · have hg : some g' = some g := hg
    cases hg
    exact ⟨h1, (Array.getElem?_eq_some_iff.1 h2).1⟩
section
variable {w W W' : World} {MB : Nat} {tc mc : List Value} {va vb v' : Value} {la lb : List DotD} {y : DotD}
theorem SurvG.later (h : SurvG w MB tc mc va vb la lb W) (hb : Below W.heap.size W W') : SurvG w MB tc mc va vb la lb W' :=
  ⟨h.a.later' hb, h.b.later' hb, h.ap, h.T.later hb, h.M.later hb, below2 h.hb hb⟩
theorem SurvG.appA (h : SurvG w MB tc mc va vb la lb W) (ho : OwnR W' w.heap.size 53 4 v' (la.map dotC ++ [dotC y])) (hE : Eff (fun k => some k = va.ownBlock) W W') (hob : v'.ownBlock = va.ownBlock ∨ ∀ g, v'.ownBlock = some g → W.heap.size ≤ g) :
    SurvG w MB tc mc v' vb (la ++ [y]) lb W' := by
  refine ⟨by rw [List.map_append]; exact ho, h.b.eff hE (fun g hg e => h.ap g e.symm hg), fun g hg e => ?_, h.T.eff hE (fun e => h.a.neT h.T (by decide) e.symm), h.M.eff hE (fun e => h.a.neT h.M (by decide) e.symm), h.hb.trans (hE.below h.hb.size (fun k hk => (h.a.ltB hk.symm).1))⟩
  rcases hob with h1 | h1
  · rw [h1] at hg; exact h.ap g hg e
  · have := h1 g hg; have := (h.b.ltB e).2; omega
theorem SurvG.appB (h : SurvG w MB tc mc va vb la lb W) (ho : OwnR W' w.heap.size 53 4 v' (lb.map dotC ++ [dotC y])) (hE : Eff (fun k => some k = vb.ownBlock) W W') (hob : v'.ownBlock = vb.ownBlock ∨ ∀ g, v'.ownBlock = some g → W.heap.size ≤ g) :
    SurvG w MB tc mc va v' la (lb ++ [y]) W' := by
  refine ⟨h.a.eff hE (fun g hg e => h.ap g hg e.symm), by rw [List.map_append]; exact ho, fun g hg e => ?_, h.T.eff hE (fun e => h.b.neT h.T (by decide) e.symm), h.M.eff hE (fun e => h.b.neT h.M (by decide) e.symm), h.hb.trans (hE.below h.hb.size (fun k hk => (h.b.ltB hk.symm).1))⟩
  rcases hob with h1 | h1
  · rw [h1] at e; exact h.ap g hg e
  · have := h1 g e; have := (h.a.ltB hg).2; omega
end
theorem marks_more (t : TruthD) {k : Nat} : k < nMarks t ↔ (k = 0 ∨ (k < t.marks.length ∧ k < 4)) := by unfold nMarks; omega
theorem apply_way (t : TruthD) (x y : Int) (hx : -200 ≤ x ∧ x ≤ 200) (hy : -200 ≤ y ∧ y ≤ 200) : applyX (wayD t) x y = appX (wayD t) x y ∧ applyY (wayD t) x y = appY (wayD t) x y := by
  have h : (motOk (wayD t) && inShift x && inShift y) = true := by rw [way_ok]; simp [inShift, isInN]; omega
  unfold applyX applyY
  rw [if_pos h, if_pos h]; exact ⟨rfl, rfl⟩
theorem finds_more (t : TruthD) {k : Nat} : k < nFinds t ↔ (k < t.finds.length ∧ k < 6) := by unfold nFinds; omega
theorem rf_succ {α : Type} (p : Nat → Bool) (f : Nat → α) (k : Nat) : ((List.range (k + 1)).filter p).map f = ((List.range k).filter p).map f ++ if p k = true then [f k] else [] := by
  rw [List.range_succ, List.filter_append, List.map_append]
  congr 1
  cases h : p k <;> simp [h]
set_option maxRecDepth 100000 in
set_option maxHeartbeats 4000000 in
theorem surveys_any (mv fv tv ev : Value) (t : TruthD) (w : World) (ht : TruthAt w mv fv tv ev t) (h64 : Truth64 t) :
    Calls Tryd.prog 12 #[truthV mv fv tv ev t] w (RetM2 (fun c v u => DotsIn c v (survA t) ∧ DotsIn c u (survB t)) w) := by
  have HSA : Hid (survA t = (List.range (nMarks t)).map (markA t) ++ ((List.range (nFinds t)).filter fun i => decide (findK t i ≠ 1)).map (findA t)) := hide rfl
  have HSB : Hid (survB t = (List.range (nMarks t)).map (markB t) ++ ((List.range (nFinds t)).filter fun i => decide (findK t i ≠ 2)).map (findB t)) := hide rfl
  have HM0 := hide (fun (W : World) id n x y hb hn hx hy => meas0_any mv fv tv ev t id n x y W hn hx hy (ht.below hb) h64)
  have HM1 := hide (fun (W : World) id n x y hb hn hx hy => meas1_any mv fv tv ev t id n x y W hn hx hy (ht.below hb) h64)
  have HW := hide (fun (W : World) => way_any mv fv tv ev t W h64.mot (by obtain ⟨a, c, e, -⟩ := ht.marks; exact ⟨a, _, c, e⟩) (by obtain ⟨a, c, e, -⟩ := ht.finds; exact ⟨a, _, c, e⟩) (by obtain ⟨a, c, e, -⟩ := ht.tols; exact ⟨a, _, c, e⟩) (by obtain ⟨a, c, e, -⟩ := ht.errs; exact ⟨a, _, c, e⟩))
  obtain ⟨ma, mc, rfl, hm1, hm2, hmc⟩ := id' ht.marks
  obtain ⟨fa, fc, rfl, hf1, hf2, hfc⟩ := id' ht.finds
  obtain ⟨ta, tc, rfl, -, -, -⟩ := id' ht.tols
  obtain ⟨ea, ec, rfl, -, -, -⟩ := id' ht.errs
  have HMC := hide hmc
  have HFC := hide hfc
  have HAP := hide (fun x y hx hy => apply_way t x y hx hy)
  clear hmc hfc ht
  go_enter Tryd.func12, Tryd.ntmps12
  go_wp2_with fail
  generalize hX1 : World.alloc w _ = X1
  have zX1 : X1.heap.size = w.heap.size + 1 := by rw [← hX1]; simp
  have bX1 : Below w.heap.size w X1 := by rw [← hX1]; exact bal w _
  have bT : Blk X1 (w.heap.size) [.slice ma t.marks.length mc, .slice fa t.finds.length fc, iV t.mot.1, iV t.mot.2.1, iV t.mot.2.2, .slice ta t.tols.length tc, .slice ea t.errs.length ec] 28 := by rw [← hX1]; exact Blk.newA w _ (by first | rfl | simp)
  have Xb := bX1
  have Xz := zX1
  clear hX1 zX1 bX1
  refine (HW.out _).mono ?_
  rintro e w1 ⟨rfl, hb1⟩
  go_wp2_with fail
  generalize hXX : World.alloc w1 _ = W2
  have hb2 : Below w1.heap.size w1 W2 := by rw [← hXX]; exact bal w1 _
  have bM : Blk W2 w1.heap.size [iV (wayD t).turn, iV (wayD t).dx, iV (wayD t).dy] 32 := by rw [← hXX]; exact Blk.newA w1 _ rfl
  have hG0 : SurvG w w1.heap.size _ _ (.slice none 0 0) (.slice none 0 0) [] [] W2 := ⟨OwnR.nil _ _ _ _, OwnR.nil _ _ _ _, fun g h => (by cases h), bT.later (below2 hb1 hb2), bM, below2 Xb (below2 hb1 hb2)⟩
  clear hXX bM bT
  have hwin := way_in t
  obtain ⟨mt, hmt⟩ : ∃ mt, wayD t = mt := ⟨_, rfl⟩
  rw [hmt] at HAP hwin hG0 ⊢
  obtain ⟨mt1, mt2, mt3⟩ := mt
  generalize w1.heap.size = MB at *
  go_loopw [5, 6, 7] (fun va vb i wr => ∃ k : Nat, k ≤ nMarks t ∧ i = .int .i64 k ∧ SurvG w MB [.slice ma t.marks.length mc, .slice fa t.finds.length fc, iV t.mot.1, iV t.mot.2.1, iV t.mot.2.2, .slice ta t.tols.length tc, .slice ea t.errs.length ec] [iV mt1, iV mt2, iV mt3] va vb ((List.range k).map (markA t)) ((List.range k).map (markB t)) wr) (fun _ _ i _ => nMarks t - (intOf i).toNat)
  case atStart => exact ⟨0, by omega, rfl, hG0⟩
  case round =>
    obtain ⟨k, hk, rfl, hG⟩ := hrel
    by_cases hlt : k < nMarks t
    · have hk4 := (nMarks_in t).2
      have HA : Hid ((List.range (k + 1)).map (markA t) = (List.range k).map (markA t) ++ [markA t k]) := hide (by rw [List.range_succ, List.map_append]; rfl)
      have HB : Hid ((List.range (k + 1)).map (markB t) = (List.range k).map (markB t) ++ [markB t k]) := hide (by rw [List.range_succ, List.map_append]; rfl)
      have HLA : Hid ((((List.range k).map (markA t)).map dotC).length < 100) := hide (by simp; omega)
      have HLB : Hid ((((List.range k).map (markB t)).map dotC).length < 100) := hide (by simp; omega)
      have hmi := mark_in t k
      have hai := app_in t (markX t k) (markY t k) hmi.1 hmi.2
      have hap := HAP.out (markX t k) (markY t k) hmi.1 hmi.2
      have HAPP := hide (fun (W : World) => rapply_any ⟨mt1, mt2, mt3⟩ (markX t k) (markY t k) W)
      have HMA : Hid (∀ W, Below w.heap.size w W → Calls Tryd.prog 33 #[truthV (.slice ma t.marks.length mc) (.slice fa t.finds.length fc) (.slice ta t.tols.length tc) (.slice ea t.errs.length ec) t, iV (3 * (k : Int)), iV k, iV 0, iV (markX t k), iV (markY t k)] W (Ret (dotV (markA t k)) W)) := hide fun W hW =>
        HM0.out W (3 * k) k (markX t k) (markY t k) hW (by omega) ⟨by omega, by omega⟩ ⟨by omega, by omega⟩
      have HMB : Hid (∀ W, Below w.heap.size w W → Calls Tryd.prog 33 #[truthV (.slice ma t.marks.length mc) (.slice fa t.finds.length fc) (.slice ta t.tols.length tc) (.slice ea t.errs.length ec) t, iV (3 * (k : Int)), iV k, iV 1, iV (appX (wayD t) (markX t k) (markY t k)), iV (appY (wayD t) (markX t k) (markY t k))] W (Ret (dotV (markB t k)) W)) := hide fun W hW =>
        HM1.out W (3 * k) k _ _ hW (by omega) ⟨by omega, by omega⟩ ⟨by omega, by omega⟩
      rw [hap.1, hap.2] at HAPP
      rw [hmt] at HMB hai
      have hmx : markX t k = if k < t.marks.length then pickR (t.marks.getD k (0, 0)).1 401 - 200 else 0 := rfl
      have hmy : markY t k = if k < t.marks.length then pickR (t.marks.getD k (0, 0)).2 401 - 200 else 0 := rfl
      generalize markX t k = MX at *
      generalize markY t k = MY at *
      generalize appX ⟨mt1, mt2, mt3⟩ MX MY = AX at *
      generalize appY ⟨mt1, mt2, mt3⟩ MX MY = AY at *
      generalize markA t k = PA at *
      generalize markB t k = PB at *
      generalize (List.range k).map (markA t) = LA at *
      generalize (List.range k).map (markB t) = LB at *
      obtain ⟨⟨hm11, hm12⟩, hm21, hm22⟩ := hmi
      obtain ⟨⟨hm31, hm32⟩, hm41, hm42⟩ := hai
      clear hap HSA HSB HFC HAP HM0 HM1 HW
      by_cases hl : k < t.marks.length
      · rw [if_pos hl] at hmx hmy
        obtain ⟨bl, o, heq, hck⟩ := HMC.out k hl
        subst heq
        have hq64 := h64.marks _ (getD_mem t.marks k (d := (0, 0)) hl)
        have HP1 := hide (fun (W : World) => pickr_any (t.marks.getD k (0, 0)).1 401 W hq64.1 (by decide) (by decide))
        have HP2 := hide (fun (W : World) => pickr_any (t.marks.getD k (0, 0)).2 401 W hq64.2 (by decide) (by decide))
        have c0 : w.cell? ⟨bl, o + k * 2, none⟩ = some (iV (t.marks.getD k (0, 0)).1) := hck 0 _ rfl
        have c1 : w.cell? ⟨bl, o + k * 2 + 1, none⟩ = some (iV (t.marks.getD k (0, 0)).2) := hck 1 _ rfl
        generalize (t.marks.getD k (0, 0)).1 = K1 at *
        generalize (t.marks.getD k (0, 0)).2 = K2 at *
        have hl2 : decide (k < t.marks.length) = true := by simpa using hl
        have HMX : Hid (pickR K1 401 - 200 = MX) := hide hmx.symm
        have HMY : Hid (pickR K2 401 - 200 = MY) := hide hmy.symm
        have p1 := pickR_in K1 (n := 401) (by decide)
        have p2 := pickR_in K2 (n := 401) (by decide)
        generalize pickR K1 401 = P1 at *
        generalize pickR K2 401 = P2 at *
        obtain rfl : P1 = MX + 200 := by omega
        obtain rfl : P2 = MY + 200 := by omega
        clear hmx hmy hq64 hck HMX HMY p1 p2
        by_cases h0 : k = 0
        · have q0 : ((k : Int) == 0) = true := by simp [h0]
          have h0' := hide h0
          clear h0
          have bT := hG.T
          have t0 := bT.cell 0 rfl
          have e0 := keep hG.hb c0
          go_wp2_with fail
          refine (HP1.out _).mono ?_
          rintro e w3 ⟨rfl, hb3⟩
          have hG3 := hG.later hb3
          clear t0 e0
          have t0 := hG3.T.cell 0 rfl
          have e1 := keep hG3.hb c1
          go_wp2_with fail
          refine (HP2.out _).mono ?_
          rintro e w4 ⟨rfl, hb4⟩
          have hG4 := hG3.later hb4
          clear t0 e1 hG hG3
          have hG := hG4
          have m0 := hG.M.cell 0 rfl
          have m1 := hG.M.cell 1 rfl
          have m2 := hG.M.cell 2 rfl
          clear hG4
          go_wp2_with fail
          refine (HAPP.out _).mono ?_
          rintro e w5 ⟨rfl, hb5⟩
          have hG5 := hG.later hb5
          clear m0 m1 m2
          have t0 := (hG5).T.cell 0 rfl
          have t1 := (hG5).T.cell 1 rfl
          have t2 := (hG5).T.cell 2 rfl
          have t3 := (hG5).T.cell 3 rfl
          have t4 := (hG5).T.cell 4 rfl
          have t5 := (hG5).T.cell 5 rfl
          have t6 := (hG5).T.cell 6 rfl
          go_wp2_with fail
          refine (HMA.out _ hG5.hb).mono ?_
          rintro e w6 ⟨rfl, hb6⟩
          have hG6 := hG5.later hb6
          clear t0 t1 t2 t3 t4 t5 t6
          go_wp2_with (at_builtin; refine app_recE infoDot rfl (by decide) Tryd.underlying30 rfl _ _ rfl w.heap.size _ _ rfl hG6.a (dotC PA) rfl (kindDot.one PA) _ rfl rfl (by have := HLA.out; omega) (by have := HLA.out; omega) hG6.hb.size ?_; intro v7 w7 ho7 hE7 hob7; have hG7 := hG6.appA ho7 hE7 hob7; have t0 := hG7.T.cell 0 rfl; have t1 := hG7.T.cell 1 rfl; have t2 := hG7.T.cell 2 rfl; have t3 := hG7.T.cell 3 rfl; have t4 := hG7.T.cell 4 rfl; have t5 := hG7.T.cell 5 rfl; have t6 := hG7.T.cell 6 rfl)
          refine (HMB.out _ hG7.hb).mono ?_
          rintro e w8 ⟨rfl, hb8⟩
          have hG8 := hG7.later hb8
          clear t0 t1 t2 t3 t4 t5 t6
          go_wp2_with (at_builtin; refine app_recE infoDot rfl (by decide) Tryd.underlying30 rfl _ _ rfl w.heap.size _ _ rfl hG8.b (dotC PB) rfl (kindDot.one PB) _ rfl rfl (by have := HLB.out; omega) (by have := HLB.out; omega) hG8.hb.size ?_; intro v9 w9 ho9 hE9 hob9; have hG9 := hG8.appB ho9 hE9 hob9)
          go_roundw
          case rel => exact ⟨k + 1, by omega, by go_num, by rw [HA.out, HB.out]; exact hG9⟩
          case measure => simp [intOf]; omega
        · have q0 : ((k : Int) == 0) = false := by simp; omega
          have q4 : decide ((k : Int) < 4) = true := by simp; omega
          clear h0
          have bT := hG.T
          have t0 := bT.cell 0 rfl
          have e0 := keep hG.hb c0
          go_wp2_with fail
          refine (HP1.out _).mono ?_
          rintro e w3 ⟨rfl, hb3⟩
          have hG3 := hG.later hb3
          clear t0 e0
          have t0 := hG3.T.cell 0 rfl
          have e1 := keep hG3.hb c1
          go_wp2_with fail
          refine (HP2.out _).mono ?_
          rintro e w4 ⟨rfl, hb4⟩
          have hG4 := hG3.later hb4
          clear t0 e1 hG hG3
          have hG := hG4
          have m0 := hG.M.cell 0 rfl
          have m1 := hG.M.cell 1 rfl
          have m2 := hG.M.cell 2 rfl
          clear hG4
          go_wp2_with fail
          refine (HAPP.out _).mono ?_
          rintro e w5 ⟨rfl, hb5⟩
          have hG5 := hG.later hb5
          clear m0 m1 m2
          have t0 := (hG5).T.cell 0 rfl
          have t1 := (hG5).T.cell 1 rfl
          have t2 := (hG5).T.cell 2 rfl
          have t3 := (hG5).T.cell 3 rfl
          have t4 := (hG5).T.cell 4 rfl
          have t5 := (hG5).T.cell 5 rfl
          have t6 := (hG5).T.cell 6 rfl
          go_wp2_with fail
          refine (HMA.out _ hG5.hb).mono ?_
          rintro e w6 ⟨rfl, hb6⟩
          have hG6 := hG5.later hb6
          clear t0 t1 t2 t3 t4 t5 t6
          go_wp2_with (at_builtin; refine app_recE infoDot rfl (by decide) Tryd.underlying30 rfl _ _ rfl w.heap.size _ _ rfl hG6.a (dotC PA) rfl (kindDot.one PA) _ rfl rfl (by have := HLA.out; omega) (by have := HLA.out; omega) hG6.hb.size ?_; intro v7 w7 ho7 hE7 hob7; have hG7 := hG6.appA ho7 hE7 hob7; have t0 := hG7.T.cell 0 rfl; have t1 := hG7.T.cell 1 rfl; have t2 := hG7.T.cell 2 rfl; have t3 := hG7.T.cell 3 rfl; have t4 := hG7.T.cell 4 rfl; have t5 := hG7.T.cell 5 rfl; have t6 := hG7.T.cell 6 rfl)
          refine (HMB.out _ hG7.hb).mono ?_
          rintro e w8 ⟨rfl, hb8⟩
          have hG8 := hG7.later hb8
          clear t0 t1 t2 t3 t4 t5 t6
          go_wp2_with (at_builtin; refine app_recE infoDot rfl (by decide) Tryd.underlying30 rfl _ _ rfl w.heap.size _ _ rfl hG8.b (dotC PB) rfl (kindDot.one PB) _ rfl rfl (by have := HLB.out; omega) (by have := HLB.out; omega) hG8.hb.size ?_; intro v9 w9 ho9 hE9 hob9; have hG9 := hG8.appB ho9 hE9 hob9)
          go_roundw
          case rel => exact ⟨k + 1, by omega, by go_num, by rw [HA.out, HB.out]; exact hG9⟩
          case measure => simp [intOf]; omega
      · rw [if_neg hl] at hmx hmy
        have hk0 : k = 0 := by
          rcases (marks_more t).1 hlt with h | h
          · exact h
          · exact absurd h.1 hl
        have hl2 : decide (k < t.marks.length) = false := by simpa using hl
        have q0 : ((k : Int) == 0) = true := by simp [hk0]
        have HK0 := hide hk0
        subst hmx hmy
        clear hk0 hl
        have bT := hG.T
        have t0 := bT.cell 0 rfl
        have m0 := hG.M.cell 0 rfl
        have m1 := hG.M.cell 1 rfl
        have m2 := hG.M.cell 2 rfl
        go_wp2_with fail
        refine (HAPP.out _).mono ?_
        rintro e w5 ⟨rfl, hb5⟩
        have hG5 := hG.later hb5
        clear m0 m1 m2
        have t0 := (hG5).T.cell 0 rfl
        have t1 := (hG5).T.cell 1 rfl
        have t2 := (hG5).T.cell 2 rfl
        have t3 := (hG5).T.cell 3 rfl
        have t4 := (hG5).T.cell 4 rfl
        have t5 := (hG5).T.cell 5 rfl
        have t6 := (hG5).T.cell 6 rfl
        go_wp2_with fail
        refine (HMA.out _ hG5.hb).mono ?_
        rintro e w6 ⟨rfl, hb6⟩
        have hG6 := hG5.later hb6
        clear t0 t1 t2 t3 t4 t5 t6
        go_wp2_with (at_builtin; refine app_recE infoDot rfl (by decide) Tryd.underlying30 rfl _ _ rfl w.heap.size _ _ rfl hG6.a (dotC PA) rfl (kindDot.one PA) _ rfl rfl (by have := HLA.out; omega) (by have := HLA.out; omega) hG6.hb.size ?_; intro v7 w7 ho7 hE7 hob7; have hG7 := hG6.appA ho7 hE7 hob7; have t0 := hG7.T.cell 0 rfl; have t1 := hG7.T.cell 1 rfl; have t2 := hG7.T.cell 2 rfl; have t3 := hG7.T.cell 3 rfl; have t4 := hG7.T.cell 4 rfl; have t5 := hG7.T.cell 5 rfl; have t6 := hG7.T.cell 6 rfl)
        refine (HMB.out _ hG7.hb).mono ?_
        rintro e w8 ⟨rfl, hb8⟩
        have hG8 := hG7.later hb8
        clear t0 t1 t2 t3 t4 t5 t6
        go_wp2_with (at_builtin; refine app_recE infoDot rfl (by decide) Tryd.underlying30 rfl _ _ rfl w.heap.size _ _ rfl hG8.b (dotC PB) rfl (kindDot.one PB) _ rfl rfl (by have := HLB.out; omega) (by have := HLB.out; omega) hG8.hb.size ?_; intro v9 w9 ho9 hE9 hob9; have hG9 := hG8.appB ho9 hE9 hob9)
        go_roundw
        case rel => exact ⟨k + 1, by omega, by go_num, by rw [HA.out, HB.out]; exact hG9⟩
        case measure => simp [intOf]; omega
    · obtain rfl : k = nMarks t := by omega
      have hnm := nMarks_in t
      have HMN := hide (fun h => hlt ((marks_more t).2 h))
      have q0 : ((nMarks t : Int) == 0) = false := by simp; omega
      have HNN : Hid (nMarks t = nMarks t) := hide rfl
      obtain ⟨NM, hNM⟩ : ∃ NM, nMarks t = NM := ⟨_, rfl⟩
      rw [hNM] at HSA HSB HMN q0 hG hnm hlt ⊢
      clear hk hNM HNN hlt
      have t0 := hG.T.cell 0 rfl
      by_cases hl : NM < t.marks.length
      · have hl2 : decide (NM < t.marks.length) = true := by simpa using hl
        have q4 : decide ((NM : Int) < 4) = false := by
          rw [← Bool.not_eq_true]; intro e; exact HMN.out (.inr ⟨hl, by simp at e; omega⟩)
        clear hl
        go_wp2_with fail
        have HL0 : Hid (((List.range NM).map (markA t)).length < 10 ∧ ((List.range NM).map (markB t)).length < 10) := hide ⟨by simp; omega, by simp; omega⟩
        generalize (List.range NM).map (markA t) = LA0 at *
        generalize (List.range NM).map (markB t) = LB0 at *
        go_loopw [5, 6, 12] (fun va vb i wr => ∃ k : Nat, k ≤ nFinds t ∧ i = .int .i64 k ∧ SurvG w MB [.slice ma t.marks.length mc, .slice fa t.finds.length fc, iV t.mot.1, iV t.mot.2.1, iV t.mot.2.2, .slice ta t.tols.length tc, .slice ea t.errs.length ec] [iV mt1, iV mt2, iV mt3] va vb (LA0 ++ ((List.range k).filter fun i => decide (findK t i ≠ 1)).map (findA t)) (LB0 ++ ((List.range k).filter fun i => decide (findK t i ≠ 2)).map (findB t)) wr) (fun _ _ i _ => nFinds t - (intOf i).toNat)
        case atStart => exact ⟨0, by omega, rfl, by simpa using hG⟩
        case round =>
          obtain ⟨k, hk, rfl, hG⟩ := hrel
          by_cases hlt : k < nFinds t
          · have hf6 : k < t.finds.length ∧ k < 6 := (finds_more t).1 hlt
            have hfl : decide (k < t.finds.length) = true := by simpa using hf6.1
            have hf62 : decide ((k : Int) < 6) = true := by simp; omega
            have hfi := find_in t k
            have hai := app_in t (findX t k) (findY t k) hfi.1 hfi.2
            have hap := HAP.out (findX t k) (findY t k) hfi.1 hfi.2
            have HAPP := hide (fun (W : World) => rapply_any ⟨mt1, mt2, mt3⟩ (findX t k) (findY t k) W)
            have HMA : Hid (∀ W, Below w.heap.size w W → Calls Tryd.prog 33 #[truthV (.slice ma t.marks.length mc) (.slice fa t.finds.length fc) (.slice ta t.tols.length tc) (.slice ea t.errs.length ec) t, iV (20 + 2 * (k : Int)), iV (4 + (k : Int)), iV 0, iV (findX t k), iV (findY t k)] W (Ret (dotV (findA t k)) W)) := hide fun W hW => by
              have := HM0.out W (20 + 2 * k) (4 + k) (findX t k) (findY t k) hW (by omega) ⟨by omega, by omega⟩ ⟨by omega, by omega⟩
              rw [show ((4 + k : Nat) : Int) = 4 + (k : Int) by omega] at this
              exact this
            have HMB : Hid (∀ W, Below w.heap.size w W → Calls Tryd.prog 33 #[truthV (.slice ma t.marks.length mc) (.slice fa t.finds.length fc) (.slice ta t.tols.length tc) (.slice ea t.errs.length ec) t, iV (60 + 3 * (k : Int)), iV (4 + (k : Int)), iV 1, iV (appX (wayD t) (findX t k) (findY t k)), iV (appY (wayD t) (findX t k) (findY t k))] W (Ret (dotV (findB t k)) W)) := hide fun W hW => by
              have := HM1.out W (60 + 3 * k) (4 + k) (appX (wayD t) (findX t k) (findY t k)) (appY (wayD t) (findX t k) (findY t k)) hW (by omega) ⟨by omega, by omega⟩ ⟨by omega, by omega⟩
              rw [show ((4 + k : Nat) : Int) = 4 + (k : Int) by omega] at this
              exact this
            rw [hap.1, hap.2] at HAPP
            rw [hmt] at HMB hai
            obtain ⟨bl, o, heq, hck⟩ := HFC.out k hf6.1
            subst heq
            have hq64 := h64.finds _ (getD_mem t.finds k (d := (0, 0, 0)) hf6.1)
            have HP1 := hide (fun (W : World) => pickr_any (t.finds.getD k (0, 0, 0)).1 401 W hq64.1 (by decide) (by decide))
            have HP2 := hide (fun (W : World) => pickr_any (t.finds.getD k (0, 0, 0)).2.1 401 W hq64.2.1 (by decide) (by decide))
            have HP3 := hide (fun (W : World) => pickr_any (t.finds.getD k (0, 0, 0)).2.2 4 W hq64.2.2 (by decide) (by decide))
            have c0 : w.cell? ⟨bl, o + k * 3, none⟩ = some (iV (t.finds.getD k (0, 0, 0)).1) := hck 0 _ rfl
            have c1 : w.cell? ⟨bl, o + k * 3 + 1, none⟩ = some (iV (t.finds.getD k (0, 0, 0)).2.1) := hck 1 _ rfl
            have c2 : w.cell? ⟨bl, o + k * 3 + 2, none⟩ = some (iV (t.finds.getD k (0, 0, 0)).2.2) := hck 2 _ rfl
            have hmx : findX t k = pickR (t.finds.getD k (0, 0, 0)).1 401 - 200 := rfl
            have hmy : findY t k = pickR (t.finds.getD k (0, 0, 0)).2.1 401 - 200 := rfl
            have hfk : findK t k = pickR (t.finds.getD k (0, 0, 0)).2.2 4 := rfl
            rw [← hfk] at HP3
            have HSA2 := hide (rf_succ (fun i => decide (findK t i ≠ 1)) (findA t) k)
            have HSB2 := hide (rf_succ (fun i => decide (findK t i ≠ 2)) (findB t) k)
            have HLA : Hid (((LA0 ++ ((List.range k).filter fun i => decide (findK t i ≠ 1)).map (findA t)).map dotC).length < 100) := hide (by
              have h1 := List.length_filter_le (fun i => decide (findK t i ≠ 1)) (List.range k)
              rw [List.length_range] at h1
              rw [List.length_map, List.length_append, List.length_map]
              have := HL0.out.1; omega)
            have HLB : Hid (((LB0 ++ ((List.range k).filter fun i => decide (findK t i ≠ 2)).map (findB t)).map dotC).length < 100) := hide (by
              have h1 := List.length_filter_le (fun i => decide (findK t i ≠ 2)) (List.range k)
              rw [List.length_range] at h1
              rw [List.length_map, List.length_append, List.length_map]
              have := HL0.out.2; omega)
            try dsimp only at HSA2 HSB2
            generalize ((List.range k).filter fun i => decide (findK t i ≠ 1)).map (findA t) = LA at *
            generalize ((List.range k).filter fun i => decide (findK t i ≠ 2)).map (findB t) = LB at *
            generalize findX t k = MX at *
            generalize findY t k = MY at *
            generalize appX ⟨mt1, mt2, mt3⟩ MX MY = AX at *
            generalize appY ⟨mt1, mt2, mt3⟩ MX MY = AY at *
            generalize findA t k = PA at *
            generalize findB t k = PB at *
            generalize findK t k = FK at *
            generalize (t.finds.getD k (0, 0, 0)).1 = K1 at *
            generalize (t.finds.getD k (0, 0, 0)).2.1 = K2 at *
            generalize (t.finds.getD k (0, 0, 0)).2.2 = K3 at *
            have p1 := pickR_in K1 (n := 401) (by decide)
            have p2 := pickR_in K2 (n := 401) (by decide)
            generalize pickR K1 401 = P1 at *
            generalize pickR K2 401 = P2 at *
            obtain rfl : P1 = MX + 200 := by omega
            obtain rfl : P2 = MY + 200 := by omega
            obtain ⟨⟨hm11, hm12⟩, hm21, hm22⟩ := hfi
            obtain ⟨⟨hm31, hm32⟩, hm41, hm42⟩ := hai
            clear hap HSA HSB HFC HAP HM0 HM1 HW HMC hmx hmy hfk hq64 hck p1 p2
            obtain ⟨hf61, hf66⟩ := hf6
            have bT := hG.T
            have t0 := bT.cell 1 rfl
            have e0 := keep hG.hb c0
            go_wp2_with fail
            refine (HP1.out _).mono ?_
            rintro e w3 ⟨rfl, hb3⟩
            have hG3 := hG.later hb3
            clear t0 e0
            have t0 := hG3.T.cell 1 rfl
            have e1 := keep hG3.hb c1
            go_wp2_with fail
            refine (HP2.out _).mono ?_
            rintro e w4 ⟨rfl, hb4⟩
            have hG4 := hG3.later hb4
            clear t0 e1 hG hG3
            have hG := hG4
            have m0 := hG.M.cell 0 rfl
            have m1 := hG.M.cell 1 rfl
            have m2 := hG.M.cell 2 rfl
            clear hG4
            go_wp2_with fail
            refine (HAPP.out _).mono ?_
            rintro e w5 ⟨rfl, hb5⟩
            have hG5' := hG.later hb5
            clear m0 m1 m2
            have t1 := hG5'.T.cell 1 rfl
            have e2 := keep hG5'.hb c2
            go_wp2_with fail
            refine (HP3.out _).mono ?_
            rintro e w5' ⟨rfl, hb5'⟩
            have hG5 := hG5'.later hb5'
            clear t1 e2
            have t0 := (hG5).T.cell 0 rfl
            have t1 := (hG5).T.cell 1 rfl
            have t2 := (hG5).T.cell 2 rfl
            have t3 := (hG5).T.cell 3 rfl
            have t4 := (hG5).T.cell 4 rfl
            have t5 := (hG5).T.cell 5 rfl
            have t6 := (hG5).T.cell 6 rfl
            by_cases hk1 : FK = 1
            · have z1 : (FK != 1) = false := by simp [hk1]
              have z2 : (FK != 2) = true := by simp [hk1]
              have s1 : Hid (decide (FK ≠ 1) = false) := hide (by simp [hk1])
              have s2 : Hid (decide (FK ≠ 2) = true) := hide (by simp [hk1])
              clear hk1
              have hG7 := hG5
              go_wp2_with fail
              refine (HMB.out _ hG7.hb).mono ?_
              rintro e w8 ⟨rfl, hb8⟩
              have hG8 := hG7.later hb8
              clear t0 t1 t2 t3 t4 t5 t6
              go_wp2_with (at_builtin; refine app_recE infoDot rfl (by decide) Tryd.underlying30 rfl _ _ rfl w.heap.size _ _ rfl hG8.b (dotC PB) rfl (kindDot.one PB) _ rfl rfl (by have := HLB.out; omega) (by have := HLB.out; omega) hG8.hb.size ?_; intro v9 w9 ho9 hE9 hob9; have hG9 := hG8.appB ho9 hE9 hob9)
              go_roundw
              case rel => exact ⟨k + 1, by omega, by go_num, by rw [HSA2.out, HSB2.out, s1.out, s2.out, if_neg (by decide), if_pos rfl, List.append_nil, ← List.append_assoc]; exact hG9⟩
              case measure => simp [intOf]; omega
            · by_cases hk2 : FK = 2
              · have z1 : (FK != 1) = true := by simp [hk2]
                have z2 : (FK != 2) = false := by simp [hk2]
                have s1 : Hid (decide (FK ≠ 1) = true) := hide (by simp [hk2])
                have s2 : Hid (decide (FK ≠ 2) = false) := hide (by simp [hk2])
                clear hk1 hk2
                go_wp2_with fail
                refine (HMA.out _ hG5.hb).mono ?_
                rintro e w6 ⟨rfl, hb6⟩
                have hG6 := hG5.later hb6
                clear t0 t1 t2 t3 t4 t5 t6
                go_wp2_with (at_builtin; refine app_recE infoDot rfl (by decide) Tryd.underlying30 rfl _ _ rfl w.heap.size _ _ rfl hG6.a (dotC PA) rfl (kindDot.one PA) _ rfl rfl (by have := HLA.out; omega) (by have := HLA.out; omega) hG6.hb.size ?_; intro v7 w7 ho7 hE7 hob7; have hG7 := hG6.appA ho7 hE7 hob7; have t0 := hG7.T.cell 0 rfl; have t1 := hG7.T.cell 1 rfl; have t2 := hG7.T.cell 2 rfl; have t3 := hG7.T.cell 3 rfl; have t4 := hG7.T.cell 4 rfl; have t5 := hG7.T.cell 5 rfl; have t6 := hG7.T.cell 6 rfl)
                go_roundw
                case rel => exact ⟨k + 1, by omega, by go_num, by rw [HSA2.out, HSB2.out, s1.out, s2.out, if_pos rfl, if_neg Bool.false_ne_true, List.append_nil, ← List.append_assoc]; exact hG7⟩
                case measure => simp [intOf]; omega
              · have z1 : (FK != 1) = true := by simp [hk1]
                have z2 : (FK != 2) = true := by simp [hk2]
                have s1 : Hid (decide (FK ≠ 1) = true) := hide (by simp [hk1])
                have s2 : Hid (decide (FK ≠ 2) = true) := hide (by simp [hk2])
                clear hk1 hk2
                go_wp2_with fail
                refine (HMA.out _ hG5.hb).mono ?_
                rintro e w6 ⟨rfl, hb6⟩
                have hG6 := hG5.later hb6
                clear t0 t1 t2 t3 t4 t5 t6
                go_wp2_with (at_builtin; refine app_recE infoDot rfl (by decide) Tryd.underlying30 rfl _ _ rfl w.heap.size _ _ rfl hG6.a (dotC PA) rfl (kindDot.one PA) _ rfl rfl (by have := HLA.out; omega) (by have := HLA.out; omega) hG6.hb.size ?_; intro v7 w7 ho7 hE7 hob7; have hG7 := hG6.appA ho7 hE7 hob7; have t0 := hG7.T.cell 0 rfl; have t1 := hG7.T.cell 1 rfl; have t2 := hG7.T.cell 2 rfl; have t3 := hG7.T.cell 3 rfl; have t4 := hG7.T.cell 4 rfl; have t5 := hG7.T.cell 5 rfl; have t6 := hG7.T.cell 6 rfl)
                refine (HMB.out _ hG7.hb).mono ?_
                rintro e w8 ⟨rfl, hb8⟩
                have hG8 := hG7.later hb8
                clear t0 t1 t2 t3 t4 t5 t6
                go_wp2_with (at_builtin; refine app_recE infoDot rfl (by decide) Tryd.underlying30 rfl _ _ rfl w.heap.size _ _ rfl hG8.b (dotC PB) rfl (kindDot.one PB) _ rfl rfl (by have := HLB.out; omega) (by have := HLB.out; omega) hG8.hb.size ?_; intro v9 w9 ho9 hE9 hob9; have hG9 := hG8.appB ho9 hE9 hob9)
                go_roundw
                case rel => exact ⟨k + 1, by omega, by go_num, by rw [HSA2.out, HSB2.out, s1.out, s2.out, if_pos rfl, if_pos rfl, ← List.append_assoc, ← List.append_assoc]; exact hG9⟩
                case measure => simp [intOf]; omega
          · obtain rfl : k = nFinds t := by omega
            have HNF := hide (fun h => hlt ((finds_more t).2 h))
            have hnl := nFinds_le t
            obtain ⟨NF, hNF⟩ : ∃ NF, nFinds t = NF := ⟨_, rfl⟩
            rw [hNF] at HSA HSB HNF hG hnl hlt ⊢
            clear hk hNF hlt
            have t1 := hG.T.cell 1 rfl
            by_cases hl9 : NF < t.finds.length
            · have hl2 : decide (NF < t.finds.length) = true := by simpa using hl9
              have q4 : decide ((NF : Int) < 6) = false := by
                rw [← Bool.not_eq_true]; intro e; exact HNF.out ⟨hl9, by simp at e; omega⟩
              clear hl9
              go_wp2_with fail
              go_ret2
              exact ⟨_, _, rfl, ⟨by rw [HSA.out]; exact RecIn.of_own hG.a (fun _ => rfl) (Nat.le_refl _), by rw [HSB.out]; exact RecIn.of_own hG.b (fun _ => rfl) (Nat.le_refl _)⟩, hG.hb⟩
            · have hl2 : decide (NF < t.finds.length) = false := by simpa using hl9
              clear hl9
              go_wp2_with fail
              go_ret2
              exact ⟨_, _, rfl, ⟨by rw [HSA.out]; exact RecIn.of_own hG.a (fun _ => rfl) (Nat.le_refl _), by rw [HSB.out]; exact RecIn.of_own hG.b (fun _ => rfl) (Nat.le_refl _)⟩, hG.hb⟩
      · have hl2 : decide (NM < t.marks.length) = false := by simpa using hl
        clear hl
        go_wp2_with fail
        have HL0 : Hid (((List.range NM).map (markA t)).length < 10 ∧ ((List.range NM).map (markB t)).length < 10) := hide ⟨by simp; omega, by simp; omega⟩
        generalize (List.range NM).map (markA t) = LA0 at *
        generalize (List.range NM).map (markB t) = LB0 at *
        go_loopw [5, 6, 12] (fun va vb i wr => ∃ k : Nat, k ≤ nFinds t ∧ i = .int .i64 k ∧ SurvG w MB [.slice ma t.marks.length mc, .slice fa t.finds.length fc, iV t.mot.1, iV t.mot.2.1, iV t.mot.2.2, .slice ta t.tols.length tc, .slice ea t.errs.length ec] [iV mt1, iV mt2, iV mt3] va vb (LA0 ++ ((List.range k).filter fun i => decide (findK t i ≠ 1)).map (findA t)) (LB0 ++ ((List.range k).filter fun i => decide (findK t i ≠ 2)).map (findB t)) wr) (fun _ _ i _ => nFinds t - (intOf i).toNat)
        case atStart => exact ⟨0, by omega, rfl, by simpa using hG⟩
        case round =>
          obtain ⟨k, hk, rfl, hG⟩ := hrel
          by_cases hlt : k < nFinds t
          · have hf6 : k < t.finds.length ∧ k < 6 := (finds_more t).1 hlt
            have hfl : decide (k < t.finds.length) = true := by simpa using hf6.1
            have hf62 : decide ((k : Int) < 6) = true := by simp; omega
            have hfi := find_in t k
            have hai := app_in t (findX t k) (findY t k) hfi.1 hfi.2
            have hap := HAP.out (findX t k) (findY t k) hfi.1 hfi.2
            have HAPP := hide (fun (W : World) => rapply_any ⟨mt1, mt2, mt3⟩ (findX t k) (findY t k) W)
            have HMA : Hid (∀ W, Below w.heap.size w W → Calls Tryd.prog 33 #[truthV (.slice ma t.marks.length mc) (.slice fa t.finds.length fc) (.slice ta t.tols.length tc) (.slice ea t.errs.length ec) t, iV (20 + 2 * (k : Int)), iV (4 + (k : Int)), iV 0, iV (findX t k), iV (findY t k)] W (Ret (dotV (findA t k)) W)) := hide fun W hW => by
              have := HM0.out W (20 + 2 * k) (4 + k) (findX t k) (findY t k) hW (by omega) ⟨by omega, by omega⟩ ⟨by omega, by omega⟩
              rw [show ((4 + k : Nat) : Int) = 4 + (k : Int) by omega] at this
              exact this
            have HMB : Hid (∀ W, Below w.heap.size w W → Calls Tryd.prog 33 #[truthV (.slice ma t.marks.length mc) (.slice fa t.finds.length fc) (.slice ta t.tols.length tc) (.slice ea t.errs.length ec) t, iV (60 + 3 * (k : Int)), iV (4 + (k : Int)), iV 1, iV (appX (wayD t) (findX t k) (findY t k)), iV (appY (wayD t) (findX t k) (findY t k))] W (Ret (dotV (findB t k)) W)) := hide fun W hW => by
              have := HM1.out W (60 + 3 * k) (4 + k) (appX (wayD t) (findX t k) (findY t k)) (appY (wayD t) (findX t k) (findY t k)) hW (by omega) ⟨by omega, by omega⟩ ⟨by omega, by omega⟩
              rw [show ((4 + k : Nat) : Int) = 4 + (k : Int) by omega] at this
              exact this
            rw [hap.1, hap.2] at HAPP
            rw [hmt] at HMB hai
            obtain ⟨bl, o, heq, hck⟩ := HFC.out k hf6.1
            subst heq
            have hq64 := h64.finds _ (getD_mem t.finds k (d := (0, 0, 0)) hf6.1)
            have HP1 := hide (fun (W : World) => pickr_any (t.finds.getD k (0, 0, 0)).1 401 W hq64.1 (by decide) (by decide))
            have HP2 := hide (fun (W : World) => pickr_any (t.finds.getD k (0, 0, 0)).2.1 401 W hq64.2.1 (by decide) (by decide))
            have HP3 := hide (fun (W : World) => pickr_any (t.finds.getD k (0, 0, 0)).2.2 4 W hq64.2.2 (by decide) (by decide))
            have c0 : w.cell? ⟨bl, o + k * 3, none⟩ = some (iV (t.finds.getD k (0, 0, 0)).1) := hck 0 _ rfl
            have c1 : w.cell? ⟨bl, o + k * 3 + 1, none⟩ = some (iV (t.finds.getD k (0, 0, 0)).2.1) := hck 1 _ rfl
            have c2 : w.cell? ⟨bl, o + k * 3 + 2, none⟩ = some (iV (t.finds.getD k (0, 0, 0)).2.2) := hck 2 _ rfl
            have hmx : findX t k = pickR (t.finds.getD k (0, 0, 0)).1 401 - 200 := rfl
            have hmy : findY t k = pickR (t.finds.getD k (0, 0, 0)).2.1 401 - 200 := rfl
            have hfk : findK t k = pickR (t.finds.getD k (0, 0, 0)).2.2 4 := rfl
            rw [← hfk] at HP3
            have HSA2 := hide (rf_succ (fun i => decide (findK t i ≠ 1)) (findA t) k)
            have HSB2 := hide (rf_succ (fun i => decide (findK t i ≠ 2)) (findB t) k)
            have HLA : Hid (((LA0 ++ ((List.range k).filter fun i => decide (findK t i ≠ 1)).map (findA t)).map dotC).length < 100) := hide (by
              have h1 := List.length_filter_le (fun i => decide (findK t i ≠ 1)) (List.range k)
              rw [List.length_range] at h1
              rw [List.length_map, List.length_append, List.length_map]
              have := HL0.out.1; omega)
            have HLB : Hid (((LB0 ++ ((List.range k).filter fun i => decide (findK t i ≠ 2)).map (findB t)).map dotC).length < 100) := hide (by
              have h1 := List.length_filter_le (fun i => decide (findK t i ≠ 2)) (List.range k)
              rw [List.length_range] at h1
              rw [List.length_map, List.length_append, List.length_map]
              have := HL0.out.2; omega)
            try dsimp only at HSA2 HSB2
            generalize ((List.range k).filter fun i => decide (findK t i ≠ 1)).map (findA t) = LA at *
            generalize ((List.range k).filter fun i => decide (findK t i ≠ 2)).map (findB t) = LB at *
            generalize findX t k = MX at *
            generalize findY t k = MY at *
            generalize appX ⟨mt1, mt2, mt3⟩ MX MY = AX at *
            generalize appY ⟨mt1, mt2, mt3⟩ MX MY = AY at *
            generalize findA t k = PA at *
            generalize findB t k = PB at *
            generalize findK t k = FK at *
            generalize (t.finds.getD k (0, 0, 0)).1 = K1 at *
            generalize (t.finds.getD k (0, 0, 0)).2.1 = K2 at *
            generalize (t.finds.getD k (0, 0, 0)).2.2 = K3 at *
            have p1 := pickR_in K1 (n := 401) (by decide)
            have p2 := pickR_in K2 (n := 401) (by decide)
            generalize pickR K1 401 = P1 at *
            generalize pickR K2 401 = P2 at *
            obtain rfl : P1 = MX + 200 := by omega
            obtain rfl : P2 = MY + 200 := by omega
            obtain ⟨⟨hm11, hm12⟩, hm21, hm22⟩ := hfi
            obtain ⟨⟨hm31, hm32⟩, hm41, hm42⟩ := hai
            clear hap HSA HSB HFC HAP HM0 HM1 HW HMC hmx hmy hfk hq64 hck p1 p2
            obtain ⟨hf61, hf66⟩ := hf6
            have bT := hG.T
            have t0 := bT.cell 1 rfl
            have e0 := keep hG.hb c0
            go_wp2_with fail
            refine (HP1.out _).mono ?_
            rintro e w3 ⟨rfl, hb3⟩
            have hG3 := hG.later hb3
            clear t0 e0
            have t0 := hG3.T.cell 1 rfl
            have e1 := keep hG3.hb c1
            go_wp2_with fail
            refine (HP2.out _).mono ?_
            rintro e w4 ⟨rfl, hb4⟩
            have hG4 := hG3.later hb4
            clear t0 e1 hG hG3
            have hG := hG4
            have m0 := hG.M.cell 0 rfl
            have m1 := hG.M.cell 1 rfl
            have m2 := hG.M.cell 2 rfl
            clear hG4
            go_wp2_with fail
            refine (HAPP.out _).mono ?_
            rintro e w5 ⟨rfl, hb5⟩
            have hG5' := hG.later hb5
            clear m0 m1 m2
            have t1 := hG5'.T.cell 1 rfl
            have e2 := keep hG5'.hb c2
            go_wp2_with fail
            refine (HP3.out _).mono ?_
            rintro e w5' ⟨rfl, hb5'⟩
            have hG5 := hG5'.later hb5'
            clear t1 e2
            have t0 := (hG5).T.cell 0 rfl
            have t1 := (hG5).T.cell 1 rfl
            have t2 := (hG5).T.cell 2 rfl
            have t3 := (hG5).T.cell 3 rfl
            have t4 := (hG5).T.cell 4 rfl
            have t5 := (hG5).T.cell 5 rfl
            have t6 := (hG5).T.cell 6 rfl
            by_cases hk1 : FK = 1
            · have z1 : (FK != 1) = false := by simp [hk1]
              have z2 : (FK != 2) = true := by simp [hk1]
              have s1 : Hid (decide (FK ≠ 1) = false) := hide (by simp [hk1])
              have s2 : Hid (decide (FK ≠ 2) = true) := hide (by simp [hk1])
              clear hk1
              have hG7 := hG5
              go_wp2_with fail
              refine (HMB.out _ hG7.hb).mono ?_
              rintro e w8 ⟨rfl, hb8⟩
              have hG8 := hG7.later hb8
              clear t0 t1 t2 t3 t4 t5 t6
              go_wp2_with (at_builtin; refine app_recE infoDot rfl (by decide) Tryd.underlying30 rfl _ _ rfl w.heap.size _ _ rfl hG8.b (dotC PB) rfl (kindDot.one PB) _ rfl rfl (by have := HLB.out; omega) (by have := HLB.out; omega) hG8.hb.size ?_; intro v9 w9 ho9 hE9 hob9; have hG9 := hG8.appB ho9 hE9 hob9)
              go_roundw
              case rel => exact ⟨k + 1, by omega, by go_num, by rw [HSA2.out, HSB2.out, s1.out, s2.out, if_neg (by decide), if_pos rfl, List.append_nil, ← List.append_assoc]; exact hG9⟩
              case measure => simp [intOf]; omega
            · by_cases hk2 : FK = 2
              · have z1 : (FK != 1) = true := by simp [hk2]
                have z2 : (FK != 2) = false := by simp [hk2]
                have s1 : Hid (decide (FK ≠ 1) = true) := hide (by simp [hk2])
                have s2 : Hid (decide (FK ≠ 2) = false) := hide (by simp [hk2])
                clear hk1 hk2
                go_wp2_with fail
                refine (HMA.out _ hG5.hb).mono ?_
                rintro e w6 ⟨rfl, hb6⟩
                have hG6 := hG5.later hb6
                clear t0 t1 t2 t3 t4 t5 t6
                go_wp2_with (at_builtin; refine app_recE infoDot rfl (by decide) Tryd.underlying30 rfl _ _ rfl w.heap.size _ _ rfl hG6.a (dotC PA) rfl (kindDot.one PA) _ rfl rfl (by have := HLA.out; omega) (by have := HLA.out; omega) hG6.hb.size ?_; intro v7 w7 ho7 hE7 hob7; have hG7 := hG6.appA ho7 hE7 hob7; have t0 := hG7.T.cell 0 rfl; have t1 := hG7.T.cell 1 rfl; have t2 := hG7.T.cell 2 rfl; have t3 := hG7.T.cell 3 rfl; have t4 := hG7.T.cell 4 rfl; have t5 := hG7.T.cell 5 rfl; have t6 := hG7.T.cell 6 rfl)
                go_roundw
                case rel => exact ⟨k + 1, by omega, by go_num, by rw [HSA2.out, HSB2.out, s1.out, s2.out, if_pos rfl, if_neg Bool.false_ne_true, List.append_nil, ← List.append_assoc]; exact hG7⟩
                case measure => simp [intOf]; omega
              · have z1 : (FK != 1) = true := by simp [hk1]
                have z2 : (FK != 2) = true := by simp [hk2]
                have s1 : Hid (decide (FK ≠ 1) = true) := hide (by simp [hk1])
                have s2 : Hid (decide (FK ≠ 2) = true) := hide (by simp [hk2])
                clear hk1 hk2
                go_wp2_with fail
                refine (HMA.out _ hG5.hb).mono ?_
                rintro e w6 ⟨rfl, hb6⟩
                have hG6 := hG5.later hb6
                clear t0 t1 t2 t3 t4 t5 t6
                go_wp2_with (at_builtin; refine app_recE infoDot rfl (by decide) Tryd.underlying30 rfl _ _ rfl w.heap.size _ _ rfl hG6.a (dotC PA) rfl (kindDot.one PA) _ rfl rfl (by have := HLA.out; omega) (by have := HLA.out; omega) hG6.hb.size ?_; intro v7 w7 ho7 hE7 hob7; have hG7 := hG6.appA ho7 hE7 hob7; have t0 := hG7.T.cell 0 rfl; have t1 := hG7.T.cell 1 rfl; have t2 := hG7.T.cell 2 rfl; have t3 := hG7.T.cell 3 rfl; have t4 := hG7.T.cell 4 rfl; have t5 := hG7.T.cell 5 rfl; have t6 := hG7.T.cell 6 rfl)
                refine (HMB.out _ hG7.hb).mono ?_
                rintro e w8 ⟨rfl, hb8⟩
                have hG8 := hG7.later hb8
                clear t0 t1 t2 t3 t4 t5 t6
                go_wp2_with (at_builtin; refine app_recE infoDot rfl (by decide) Tryd.underlying30 rfl _ _ rfl w.heap.size _ _ rfl hG8.b (dotC PB) rfl (kindDot.one PB) _ rfl rfl (by have := HLB.out; omega) (by have := HLB.out; omega) hG8.hb.size ?_; intro v9 w9 ho9 hE9 hob9; have hG9 := hG8.appB ho9 hE9 hob9)
                go_roundw
                case rel => exact ⟨k + 1, by omega, by go_num, by rw [HSA2.out, HSB2.out, s1.out, s2.out, if_pos rfl, if_pos rfl, ← List.append_assoc, ← List.append_assoc]; exact hG9⟩
                case measure => simp [intOf]; omega
          · obtain rfl : k = nFinds t := by omega
            have HNF := hide (fun h => hlt ((finds_more t).2 h))
            have hnl := nFinds_le t
            obtain ⟨NF, hNF⟩ : ∃ NF, nFinds t = NF := ⟨_, rfl⟩
            rw [hNF] at HSA HSB HNF hG hnl hlt ⊢
            clear hk hNF hlt
            have t1 := hG.T.cell 1 rfl
            by_cases hl9 : NF < t.finds.length
            · have hl2 : decide (NF < t.finds.length) = true := by simpa using hl9
              have q4 : decide ((NF : Int) < 6) = false := by
                rw [← Bool.not_eq_true]; intro e; exact HNF.out ⟨hl9, by simp at e; omega⟩
              clear hl9
              go_wp2_with fail
              go_ret2
              exact ⟨_, _, rfl, ⟨by rw [HSA.out]; exact RecIn.of_own hG.a (fun _ => rfl) (Nat.le_refl _), by rw [HSB.out]; exact RecIn.of_own hG.b (fun _ => rfl) (Nat.le_refl _)⟩, hG.hb⟩
            · have hl2 : decide (NF < t.finds.length) = false := by simpa using hl9
              clear hl9
              go_wp2_with fail
              go_ret2
              exact ⟨_, _, rfl, ⟨by rw [HSA.out]; exact RecIn.of_own hG.a (fun _ => rfl) (Nat.le_refl _), by rw [HSB.out]; exact RecIn.of_own hG.b (fun _ => rfl) (Nat.le_refl _)⟩, hG.hb⟩
end Go.Proofs.YtoofkahklboojaaDoor
