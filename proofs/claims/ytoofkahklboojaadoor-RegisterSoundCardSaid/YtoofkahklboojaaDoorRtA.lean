/- Register: the walk of RegisterSound. Conditions: how the truth and the global tables lie in memory; that integers are of 64 bits. -/
import Derived.Test.YtoofkahklboojaaDoorRkZS
import Derived.Test.YtoofkahklboojaaDoorRkQ
import Derived.Test.YtoofkahklboojaaDoorRsA
namespace Go.Proofs.YtoofkahklboojaaDoor
open Go.RowKit

set_option maxRecDepth 100000 in
set_option maxHeartbeats 4000000 in
theorem sound_any (t : TruthD) (mv fv tv ev : Value) (w : World) (ht : TruthAt w mv fv tv ev t) (h64 : Truth64 t) (hG : Glob w) :
    Calls Tryd.prog 4 #[truthV mv fv tv ev t] w (Ret (.bool true) w) := by
  have hval := surv_valid t
  have hfit := way_fits t
  have hlb := valid_len hval.2
  have hla := valid_len hval.1
  have HSV := hide (fun (W : World) hb => surveys_any mv fv tv ev t W (ht.below hb) h64)
  have HWY := hide (fun (W : World) => way_any mv fv tv ev t W h64.mot (by obtain ⟨a, c, e, -⟩ := ht.marks; exact ⟨a, _, c, e⟩) (by obtain ⟨a, c, e, -⟩ := ht.finds; exact ⟨a, _, c, e⟩) (by obtain ⟨a, c, e, -⟩ := ht.tols; exact ⟨a, _, c, e⟩) (by obtain ⟨a, c, e, -⟩ := ht.errs; exact ⟨a, _, c, e⟩))
  have HER := hide (fun i h1 h2 => surv_err t (i := i) h1 h2)
  have HRG := hide (fun i h1 h2 => surv_range t (i := i) h1 h2)
  have HKD := hide (fun i k h1 h2 h3 h4 => sound_kind t (i := i) (k := k) h1 h2 h3 h4)
  obtain ⟨ma, mc, rfl, -, -, -⟩ := id' ht.marks
  obtain ⟨fa, fc, rfl, -, -, -⟩ := id' ht.finds
  obtain ⟨ta, tc, rfl, -, -, -⟩ := id' ht.tols
  obtain ⟨ea, ec, rfl, -, -, -⟩ := id' ht.errs
  generalize survA t = A at *
  generalize survB t = B at *
  generalize wayD t = M at *
  obtain ⟨hvA, hvB⟩ := hval
  go_enter Tryd.func4, Tryd.ntmps4
  go_wp2_with fail
  generalize hX1 : World.alloc w _ = X1
  have zX1 : X1.heap.size = w.heap.size + 1 := by rw [← hX1]; simp
  have bX1 : Below w.heap.size w X1 := by rw [← hX1]; exact bal w _
  have bT : Blk X1 (w.heap.size) [.slice ma t.marks.length mc, .slice fa t.finds.length fc, iV t.mot.1, iV t.mot.2.1, iV t.mot.2.2, .slice ta t.tols.length tc, .slice ea t.errs.length ec] 28 := by rw [← hX1]; exact Blk.newA w _ (by first | rfl | simp)
  have Xb := bX1
  have Xz := zX1
  clear hX1 zX1 bX1
  refine (sane_any _ (hG.later Xb)).mono ?_
  rintro e w1 ⟨rfl, hb1⟩
  have bT1 := bT.later hb1
  have hbw1 := below2 Xb hb1
  have t0 := (bT1).cell 0 rfl
  have t1 := (bT1).cell 1 rfl
  have t2 := (bT1).cell 2 rfl
  have t3 := (bT1).cell 3 rfl
  have t4 := (bT1).cell 4 rfl
  have t5 := (bT1).cell 5 rfl
  have t6 := (bT1).cell 6 rfl
  go_wp2_with fail
  refine (HSV.out _ hbw1).mono ?_
  rintro e w2 ⟨va, vb, rfl, ⟨hA0, hB0⟩, hb2⟩
  have DA : DotsAt w2 va A := hA0.at
  have DB : DotsAt w2 vb B := hB0.at
  have bT2 := bT1.later hb2
  have hbw2 := below2 hbw1 hb2
  have hG2 := hG.later hbw2
  obtain ⟨aa, ac, rfl, -, -, hac⟩ := id DA
  obtain ⟨ba, bc, rfl, -, -, hbc⟩ := id DB
  have HAC := hide hac
  have HBC := hide hbc
  clear hA0 hB0 hac hbc t0 t1 t2 t3 t4 t5 t6
  go_wp2_with fail
  refine (rvalid_any A _ _ DA).mono ?_
  rw [hvA]
  rintro e w3 ⟨rfl, hb3⟩
  go_wp2_with fail
  refine (rvalid_any B _ _ (DB.below hb3)).mono ?_
  rw [hvB]
  rintro e w4 ⟨rfl, hb4⟩
  have hb24 := below2 hb3 hb4
  have bT4 := bT2.later hb24
  have t0 := (bT4).cell 0 rfl
  have t1 := (bT4).cell 1 rfl
  have t2 := (bT4).cell 2 rfl
  have t3 := (bT4).cell 3 rfl
  have t4 := (bT4).cell 4 rfl
  have t5 := (bT4).cell 5 rfl
  have t6 := (bT4).cell 6 rfl
  go_wp2_with fail
  refine (HWY.out _).mono ?_
  rintro e w5 ⟨rfl, hb5⟩
  have hb25 := below2 hb24 hb5
  go_wp2_with fail
  refine (fitting_any A B _ _ M _ (DA.below hb25) (DB.below hb25) (hG2.later hb25)).mono ?_
  rw [hfit]
  rintro e w6 ⟨rfl, hb6⟩
  have hb26 := below2 hb25 hb6
  clear t0 t1 t2 t3 t4 t5 t6
  go_wp2_with fail
  go_loopw [6] (fun i wr => ∃ k : Nat, k ≤ B.length ∧ i = .int .i64 k ∧ Below w2.heap.size w2 wr) (fun i _ => B.length - (intOf i).toNat)
  case atStart => exact ⟨0, by omega, rfl, hb26⟩
  case round =>
    obtain ⟨k, hk, rfl, hbr⟩ := hrel
    by_cases hlt : k < B.length
    · obtain ⟨bl, o, heq, hck⟩ := HBC.out k hlt
      subst heq
      have hkl : decide (k < B.length) = true := by simpa using hlt
      have hz0 : w2.cell? ⟨bl, o + k * 4, none⟩ = some (iV (B.getD k dot0).id) := hck 0 _ rfl
      have e0 := keep hbr hz0
      clear hck
      by_cases h19 : (B.getD k dot0).id ≤ 19
      · have h20 : decide ((B.getD k dot0).id ≤ 19) = true := by simpa using h19
        generalize (B.getD k dot0).id = Z at *
        clear h19
        go_wp2_with fail
        go_roundw
        case rel => exact ⟨k + 1, by omega, by go_num, hbr⟩
        case measure => simp [intOf]; omega
      · have h20 : decide ((B.getD k dot0).id ≤ 19) = false := by simpa using h19
        have HERk := HER.out k hlt (by omega)
        have hrg := HRG.out k hlt (by omega)
        have HKDk := hide (fun j h3 h4 => HKD.out k j hlt (by omega) h3 h4)
        have HJ := hide (fun (W : World) hb => judge_any A B _ _ (B.getD k dot0).id W (DA.below hb) (DB.below hb) (by omega) (by omega) (hG2.later hb))
        rw [HERk] at HJ
        generalize (B.getD k dot0).id = Z at *
        generalize judV A B Z = V at *
        obtain ⟨vk, ⟨v1, v2, v3⟩, vp, v4, v5, v6⟩ := V
        obtain ⟨z1, z2⟩ := hrg
        dsimp only at HKDk
        clear h19 HERk
        go_wp2_with fail
        refine (HJ.out _ hbr).mono ?_
        rintro e w7 ⟨rfl, hb7⟩
        go_wp2_with fail
        generalize hXX : World.alloc w7 _ = W8
        have hb8 : Below w7.heap.size w7 W8 := by rw [← hXX]; exact bal w7 _
        have bV : Blk W8 w7.heap.size [iV vk, iV v1, iV v2, iV v3, iV vp, iV v4, iV v5, iV v6] 55 := by rw [← hXX]; exact Blk.newA w7 _ rfl
        have hbr8 := below2 hbr (below2 hb7 hb8)
        generalize w7.heap.size = VB at *
        clear hXX e0
        go_loopw [9] (fun i wr => ∃ j : Nat, j ≤ A.length ∧ i = .int .i64 j ∧ Blk wr VB [iV vk, iV v1, iV v2, iV v3, iV vp, iV v4, iV v5, iV v6] 55 ∧ Below w2.heap.size w2 wr) (fun i _ => A.length - (intOf i).toNat)
        case atStart => exact ⟨0, by omega, rfl, bV, hbr8⟩
        case round =>
          obtain ⟨j, hj, rfl, bV, hbr⟩ := hrel
          by_cases hlj : j < A.length
          · obtain ⟨bm, om, heq, hcm⟩ := HAC.out j hlj
            subst heq
            have hjl : decide (j < A.length) = true := by simpa using hlj
            have e0 := bwc (show wr.cell? ⟨bl, o + k * 4, none⟩ = some (iV Z) from keep hbr hz0)
            have HKj := hide (fun h => HKDk.out j hlj h)
            have p0 := bwc (show wr.cell? ⟨bm, om + j * 4, none⟩ = some (iV (A.getD j dot0).id) from keep hbr (hcm 0 _ rfl))
            have c0 := bwc (bV.cell 0 rfl)
            generalize (A.getD j dot0).id = Y at *
            clear hcm
            have u1 : IntKind.i64.wrap (Z - 60) = Z - 60 := IntWalk.i64_in _ (by omega)
            have u2 : (Z - 60).tdiv 3 = (Z - 60) / 3 := Int.tdiv_eq_ediv_of_nonneg (by omega)
            have u3 : IntKind.i64.wrap ((Z - 60) / 3) = (Z - 60) / 3 := IntWalk.i64_in _ (by omega)
            have u4 : IntKind.i64.wrap (2 * ((Z - 60) / 3)) = 2 * ((Z - 60) / 3) := IntWalk.i64_in _ (by omega)
            have u5 : IntKind.i64.wrap (20 + 2 * ((Z - 60) / 3)) = 20 + 2 * ((Z - 60) / 3) := IntWalk.i64_in _ (by omega)
            have uz : 0 ≤ Z - 60 := by omega
            cases hE : (Y == 20 + 2 * ((Z - 60) / 3))
            · skip
              go_wp2_with fail
              refine wp_region_bw (by kernel_rfl) (by kernel_rfl) ?_
              repeat (go_big_quiet_step (fail))
              refine wpQuiet_nil ?_
              rintro _ ⟨i, rfl⟩
              have bV2 := bV.later i.h
              have hbr2 := below2 hbr i.h
              go_wp2_with fail
              go_roundw
              case rel => exact ⟨j + 1, by omega, by go_num, bV2, hbr2⟩
              case measure => simp [intOf]; omega
            · have hv1 := HKj.out (by simpa using hE)
              have hv2 : (vk == 1) = false := by simpa using hv1
              clear hv1
              go_wp2_with fail
              refine wp_region_bw (by kernel_rfl) (by kernel_rfl) ?_
              repeat (go_big_quiet_step (fail))
              refine wpQuiet_nil ?_
              rintro _ ⟨i, rfl⟩
              have bV2 := bV.later i.h
              have hbr2 := below2 hbr i.h
              go_wp2_with fail
              go_roundw
              case rel => exact ⟨j + 1, by omega, by go_num, bV2, hbr2⟩
              case measure => simp [intOf]; omega
          · obtain rfl : j = A.length := by omega
            go_wp2_with fail
            go_roundw
            case rel => exact ⟨k + 1, by omega, by go_num, hbr⟩
            case measure => simp [intOf]; omega
    · obtain rfl : k = B.length := by omega
      go_wp2_with fail
      go_ret
      exact ⟨rfl, hbw2.trans (hbr.mono hbw2.size)⟩
end Go.Proofs.YtoofkahklboojaaDoor
