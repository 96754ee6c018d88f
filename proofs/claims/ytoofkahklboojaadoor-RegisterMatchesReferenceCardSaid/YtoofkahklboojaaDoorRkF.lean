/- Register: walks of Fitting and Fits. Conditions: how the arguments and the global tables lie in memory. -/
import Derived.Test.YtoofkahklboojaaDoorRkE
import Derived.Test.YtoofkahklboojaaDoorRgW
import Derived.Test.YtoofkahklboojaaDoorRgY
import Derived.Test.YtoofkahklboojaaDoorRgZ
namespace Go.Proofs.YtoofkahklboojaaDoor
open Go.RowKit

theorem marks_dots (a b : List DotD) : DotsOk (marksD a b) := fun _ hr => let h := marks_ok hr; ⟨h.1, h.2.1⟩
theorem marks_len (a b : List DotD) : (marksD a b).length ≤ 144 := by
  unfold marksD
  split
  · rename_i h
    rw [Bool.and_eq_true] at h
    have h1 := valid_len h.1
    have h2 := valid_len h.2
    have h3 := marksRaw_len b a
    have h4 : a.length * b.length ≤ 12 * 12 := Nat.mul_le_mul h1 h2
    omega
  · simp
set_option maxRecDepth 20000 in
set_option maxHeartbeats 1000000 in
theorem fitting_any (a b : List DotD) (va vb : Value) (m : MotD) (w : World) (ha : DotsAt w va a) (hb : DotsAt w vb b) (hG : Glob w) :
    Calls Tryd.prog 24 #[va, vb, motV m] w (Ret (.bool (fittingD a b m)) w) := by
  have HF : Hid (fittingD a b m = (!(marksD a b).isEmpty && motOk m && hasB (fitD (marksD a b) m.turn.toNat) m.dx m.dy)) := hide rfl
  have HI := hide (fun W => ismot_any m W)
  generalize fittingD a b m = R at *
  have hmi := (mot_iff m).1
  obtain ⟨t, dx, dy⟩ := m
  cases hm : motOk ⟨t, dx, dy⟩
  · rw [hm] at HF HI
    clear hmi
    go_enter Tryd.func24, Tryd.ntmps24
    go_wp2_with fail
    generalize hX1 : World.alloc w _ = X1
    have zX1 : X1.heap.size = w.heap.size + 1 := by rw [← hX1]; simp
    have bX1 : Below w.heap.size w X1 := by rw [← hX1]; exact bal w _
    have bA : Blk X1 (w.heap.size) [iV t, iV dx, iV dy] 32 := by rw [← hX1]; exact Blk.newA w _ (by first | rfl | simp)
    have Xb := bX1
    have Xz := zX1
    clear hX1 zX1 bX1
    refine (marks_any a b va vb _ (ha.below Xb) (hb.below Xb)).mono ?_
    rintro e w1 ⟨v1, rfl, hv1, hb1⟩
    have hv2 : PairsAt w1 v1 (marksD a b) := hv1.at
    obtain ⟨la, lc, rfl, -, -, -⟩ := id hv2
    have hG1 := (hG.later Xb).later hb1
    have bA1 := bA.later hb1
    have c0 := bA1.cell 0 rfl
    have c1 := bA1.cell 1 rfl
    have c2 := bA1.cell 2 rfl
    have C0 := bwc c0
    have C1 := bwc c1
    have C2 := bwc c2
    have hb01 := below2 Xb hb1
    have hml := marks_len a b
    generalize marksD a b = l at *
    cases hz : decide (0 < l.length)
    · go_wp2_with fail
      refine wp_region_bw (by kernel_rfl) (by kernel_rfl) ?_
      repeat (go_big_quiet_step ((first | (go_at_call 45; exact quiet (HI.out _))  | (go_at_call 46; exact quiet (has_any _ _ _ _)))))
      refine wpQuiet_nil ?_
      rintro _ ⟨i, rfl⟩
      go_wp2_with fail
      go_ret
      exact ⟨ret_bool (by rw [HF.out, Bool.and_false, Bool.false_and]), below2 hb01 i.h⟩
    · go_wp2_with fail
      refine wp_region_bw (by kernel_rfl) (by kernel_rfl) ?_
      repeat (go_big_quiet_step ((first | (go_at_call 45; exact quiet (HI.out _))  | (go_at_call 46; exact quiet (has_any _ _ _ _)))))
      refine wpQuiet_nil ?_
      rintro _ ⟨i, rfl⟩
      go_wp2_with fail
      go_ret
      exact ⟨ret_bool (by rw [HF.out, Bool.and_false, Bool.false_and]), below2 hb01 i.h⟩
  · rw [hm] at HF HI
    obtain ⟨⟨t0, t3⟩, -⟩ := hmi hm
    dsimp only at t0 t3 HF
    go_enter Tryd.func24, Tryd.ntmps24
    go_wp2_with fail
    generalize hX1 : World.alloc w _ = X1
    have zX1 : X1.heap.size = w.heap.size + 1 := by rw [← hX1]; simp
    have bX1 : Below w.heap.size w X1 := by rw [← hX1]; exact bal w _
    have bA : Blk X1 (w.heap.size) [iV t, iV dx, iV dy] 32 := by rw [← hX1]; exact Blk.newA w _ (by first | rfl | simp)
    have Xb := bX1
    have Xz := zX1
    clear hX1 zX1 bX1
    refine (marks_any a b va vb _ (ha.below Xb) (hb.below Xb)).mono ?_
    rintro e w1 ⟨v1, rfl, hv1, hb1⟩
    have hv2 : PairsAt w1 v1 (marksD a b) := hv1.at
    obtain ⟨la, lc, rfl, -, -, -⟩ := id hv2
    have hG1 := (hG.later Xb).later hb1
    have bA1 := bA.later hb1
    have c0 := bA1.cell 0 rfl
    have c1 := bA1.cell 1 rfl
    have c2 := bA1.cell 2 rfl
    have C0 := bwc c0
    have C1 := bwc c1
    have C2 := bwc c2
    have hb01 := below2 Xb hb1
    have hml := marks_len a b
    have HFIT := hide (fun (i : Bw w1.heap.size w1) => fit_any (marksD a b) _ t.toNat i.W (hv2.below i.h) (by omega) (marks_dots a b) (hG1.later i.h))
    rw [show (t.toNat : Int) = t by omega] at HFIT
    generalize marksD a b = l at *
    cases hz : decide (0 < l.length)
    · clear HFIT
      go_wp2_with fail
      refine wp_region_bw (by kernel_rfl) (by kernel_rfl) ?_
      repeat (go_big_quiet_step ((first | (go_at_call 45; exact quiet (HI.out _))  | (go_at_call 46; exact quiet (has_any _ _ _ _)))))
      refine wpQuiet_nil ?_
      rintro _ ⟨i, rfl⟩
      go_wp2_with fail
      go_ret
      exact ⟨ret_bool (by rw [HF.out]; cases l with | nil => rfl | cons => simp at hz), below2 hb01 i.h⟩
    · have hne : l.isEmpty = false := by cases l with | nil => simp at hz | cons => rfl
      rw [hne] at HF
      go_wp2_with fail
      refine wp_region_bw (by kernel_rfl) (by kernel_rfl) ?_
      repeat (go_big_quiet_step ((first | (go_at_call 45; exact quiet (HI.out _)) | (go_at_call 37; exact quiet (HFIT.out _)) | (go_at_call 46; exact quiet (has_any _ _ _ _)))))
      refine wpQuiet_nil ?_
      rintro _ ⟨i, rfl⟩
      go_wp2_with fail
      go_ret
      exact ⟨ret_bool (by rw [HF.out]; rfl), below2 hb01 i.h⟩
def fitC (f : Nat × BoxD) : List Value := [iV f.1, iV f.2.xl, iV f.2.xh, iV f.2.yl, iV f.2.yh]
def fit0 : Nat × BoxD := (0, ⟨0, 0, 0, 0⟩)
abbrev FitsIn (c : Rd) (v : Value) (l : List (Nat × BoxD)) : Prop := RecIn fitC fit0 5 c v l
theorem kindFit : RKind fitC 5 65 := ⟨fun x => rfl, fun x u hu => by simp [fitC] at hu; rcases hu with rfl | rfl | rfl | rfl | rfl <;> rfl⟩
theorem infoFit : (Tryd.prog.info? 65).map (fun i => (i.zero, i.size, i.bytes)) = some (some (.agg #[iV 0, iV 0, iV 0, iV 0, iV 0]), 5, 40) := by kernel_rfl
/-- the fits of the first k turns -/
def fitsUp (l : List (DotD × DotD)) (k : Nat) : List (Nat × BoxD) := ((List.range k).map fun j => (j, fitD l j)).filter fun f => !emptyB f.2
theorem fitsUp_succ (l : List (DotD × DotD)) (k : Nat) : fitsUp l (k + 1) = fitsUp l k ++ if emptyB (fitD l k) then [] else [(k, fitD l k)] := by
  unfold fitsUp
  rw [List.range_succ, List.map_append, List.filter_append]
  congr 1
  cases h : emptyB (fitD l k) <;> simp [h]
theorem fitsUp_len (l : List (DotD × DotD)) (k : Nat) : (fitsUp l k).length ≤ k := by
  have h1 := List.length_filter_le (fun f : Nat × BoxD => !emptyB f.2) ((List.range k).map fun j => (j, fitD l j))
  rw [List.length_map, List.length_range] at h1; exact h1
/-- what Fits returns -/
def fitsR (a b : List DotD) : List (Nat × BoxD) := if (marksD a b).isEmpty then [] else fitsD a b
def errR (a b : List DotD) : Int := if (marksD a b).isEmpty then 110 else 0
set_option maxRecDepth 20000 in
set_option maxHeartbeats 2000000 in
theorem fits_any (a b : List DotD) (va vb : Value) (w : World) (ha : DotsAt w va a) (hb : DotsAt w vb b) (hG : Glob w) :
    Calls Tryd.prog 16 #[va, vb] w (RetM2 (fun c v u => FitsIn c v (fitsR a b) ∧ u = iV (errR a b)) w) := by
  have HR : Hid (fitsR a b = if (marksD a b).isEmpty then [] else fitsUp (marksD a b) 4) := hide rfl
  have HE : Hid (errR a b = if (marksD a b).isEmpty then 110 else 0) := hide rfl
  have hml := marks_len a b
  generalize fitsR a b = FR at *
  generalize errR a b = ER at *
  go_enter Tryd.func16, Tryd.ntmps16
  go_wp2_with fail
  refine (marks_any a b va vb _ ha hb).mono ?_
  rintro e w1 ⟨v1, rfl, hv1, hb1⟩
  have hv2 : PairsAt w1 v1 (marksD a b) := hv1.at
  obtain ⟨la, lc, rfl, -, -, -⟩ := id hv2
  have hG1 := hG.later hb1
  have HD := hide (marks_dots a b)
  generalize marksD a b = l at *
  cases hz : ((l.length : Int) == 0)
  · have hne : l.isEmpty = false := by cases l with | nil => simp at hz | cons => rfl
    rw [hne] at HR HE
    clear hne
    go_wp2_with fail
    go_loopw [7, 16] (fun v i wr => ∃ (k : Nat), k ≤ 4 ∧ i = .int .i64 k ∧ OwnR wr w1.heap.size 65 5 v ((fitsUp l k).map fitC) ∧ Below w.heap.size w wr ∧ Below w1.heap.size w1 wr) (fun _ i _ => 4 - (intOf i).toNat)
    case atStart => exact ⟨0, by omega, rfl, OwnR.nil _ _ _ _, hb1, Below.refl _ _⟩
    case round =>
      obtain ⟨k, hk, rfl, hown, hbr, hbr1⟩ := hrel
      by_cases hlt : k < 4
      · have HS := hide (fitsUp_succ l k)
        have hfl := fitsUp_len l k
        have HFIT := hide (fit_any l _ k wr (hv2.below hbr1) (by omega) HD.out (hG1.later hbr1))
        have HEM := hide (fun W => isempty_any (fitD l k) W)
        generalize fitsUp l k = F at HS hown hfl
        have hfl4 : F.length < 1000000 := by omega
        clear hfl
        generalize fitD l k = f at *
        obtain ⟨fl, fh, gl, gh⟩ := f
        cases hem : emptyB ⟨fl, fh, gl, gh⟩
        all_goals
          rw [hem] at HS HEM
          go_wp2_with fail
          refine HFIT.out.mono ?_
          rintro e w3 ⟨rfl, hb3⟩
          go_wp2_with fail
          generalize hXX : World.alloc w3 _ = X
          have hbX : Below w3.heap.size w3 X := by rw [← hXX]; exact bal w3 _
          have bB : Blk X w3.heap.size [iV fl, iV fh, iV gl, iV gh] 80 := by rw [← hXX]; exact Blk.newA w3 _ rfl
          clear hXX
          refine (HEM.out _).mono ?_
          rintro e w4 ⟨rfl, hb4⟩
          have bB4 := bB.later hb4
          have hb34 := below2 hb3 (below2 hbX hb4)
          have hown4 := hown.later' hb34
          have hbr4 := below2 hbr hb34
          have hbr14 := below2 hbr1 hb34
          have a0 := bB4.cell 0 rfl
          have a1 := bB4.cell 1 rfl
          have a2 := bB4.cell 2 rfl
          have a3 := bB4.cell 3 rfl
        · rw [if_neg (by decide)] at HS
          go_wp2_with (at_builtin; refine app_recM kindFit infoFit rfl (by decide) Tryd.underlying41 (by decide) rfl _ _ rfl w1.heap.size _ _ rfl hown4 (k, ⟨fl, fh, gl, gh⟩) _ rfl rfl hfl4 hbr14.size ?_; intro g cc w5 hown5 hE5 hz5)
          go_roundw
          case rel => exact ⟨k + 1, by omega, by go_num, by rw [HS.out]; exact hown5, hbr4.trans ((hE5.below hbr14.size).mono hb1.size), hbr14.trans (hE5.below hbr14.size)⟩
          case measure => simp [intOf]; omega
        · rw [if_pos trivial, List.append_nil] at HS
          go_wp2_with fail
          go_roundw
          case rel => exact ⟨k + 1, by omega, by go_num, by rw [HS.out]; exact hown4, hbr4, hbr14⟩
          case measure => simp [intOf]; omega
      · obtain rfl : k = 4 := by omega
        go_wp2_with fail
        go_ret2
        exact ⟨_, _, rfl, ⟨by rw [HR.out]; exact RecIn.of_own hown (fun _ => rfl) hb1.size, by rw [HE.out]; rfl⟩, hbr⟩
  · have hne : l.isEmpty = true := by cases l with | nil => rfl | cons => simp at hz; omega
    rw [hne] at HR HE
    go_wp2_with fail
    go_ret2
    exact ⟨_, _, rfl, ⟨by rw [HR.out]; exact RecIn.nil _, by rw [HE.out]; rfl⟩, hb1⟩
end Go.Proofs.YtoofkahklboojaaDoor
