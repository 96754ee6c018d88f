/- RegisterMatchesReference: for every input the law returns true, where the package's two tables hold what the text lays; and its tied card. No condition. -/
import Derived.Test.YtoofkahklboojaaDoorLiftV
import Derived.Test.YtoofkahklboojaaDoorRvK
import Derived.Test.YtoofkahklboojaaDoorCards
import Derived.Test.YtoofkahklboojaaDoorTie
import Derived.SevenTiedAt
namespace Go.Proofs.YtoofkahklboojaaDoor
open Go.ChangeShapes Go.WideShapes Go.ChangeAt Go.RowKit

set_option maxRecDepth 100000 in
theorem refl_lifted (os : Os) (started : os.Started) (H : Type) (enc : TypeId × Value → H) :
    ReturnsInHanded {} Tryd.checked os 3 .any (fun w args => (Rows.registerMatchesReferenceSpec.pre enc Tryd.prog Tryd.f3 Rows.registerMatchesReferenceRow.domain false w args ∧ laidMet Tryd.prog Rows.registerMatchesReferenceRow.laid w) ∧ sizedMet enc Tryd.prog Tryd.f3 (OpenSpec.ofChange Rows.registerMatchesReferenceSpec) false w args)
      (Rows.registerMatchesReferenceSpec.post enc Tryd.prog Tryd.f3 false true false false) := by
  refine returnsInHanded_of_change_and (C := Tryd.checked) (X := fun w _ => laidMet Tryd.prog Rows.registerMatchesReferenceRow.laid w) (fun _ _ _ hh h => h.of_heap hh) Tryd.own started (by kernel_rfl) Tryd.func3
    (ChangeSpec.witness_shaped (enc := enc) (C := Tryd.checked) (os := os) (X := fun w _ => laidMet Tryd.prog Rows.registerMatchesReferenceRow.laid w) false (World.doorLaid Tryd.prog 33 os) #[.agg #[.slice none 0 0, .slice none 0 0, .int .i64 0, .int .i64 0, .int .i64 0, .slice none 0 0, .slice none 0 0], .agg #[.int .i64 0, .int .i64 0, .int .i64 0, .int .i64 0, .int .i64 0, .int .i64 0], .slice none 0 0, .int .i64 0, .agg #[.int .i64 0, .int .i64 0, .int .i64 0], .int .i64 0, .int .i64 0] 8 rfl (World.shaped_of_RefB (by kernel_rfl) (by kernel_rfl)) (by kernel_rfl) (by kernel_rfl) (by kernel_rfl) (door_met os _)) ?_
  intro W base args ds gs before hval0 hW hcnd0 _ hL _
  have hval : ∀ (j : Nat) t v, Tryd.f3.params[j]? = some t → args[j]? = some v → Value.okWide Tryd.prog W .any base t v := hval0
  have hW' := hW
  obtain ⟨p, q, hA0, hV, rfl, hfz, hnd⟩ := hW
  have hA : DataW.TrodAll enc Tryd.prog W 0 (fun _ => true) true Tryd.f3.params.toList args.toList ds p := hA0
  rw [Tryd.params3] at hA hval
  obtain ⟨v0, as0, d0, ds0, p0, q0, e0, rfl, rfl, h0, hA⟩ := trodAll_cons hA
  obtain ⟨v1, as1, d1, ds1, p1, q1, rfl, rfl, rfl, h1, hA⟩ := trodAll_cons hA
  obtain ⟨v2, as2, d2, ds2, p2, q2, rfl, rfl, rfl, h2, hA⟩ := trodAll_cons hA
  obtain ⟨v3, as3, d3, ds3, p3, q3, rfl, rfl, rfl, h3, hA⟩ := trodAll_cons hA
  obtain ⟨v4, as4, d4, ds4, p4, q4, rfl, rfl, rfl, h4, hA⟩ := trodAll_cons hA
  obtain ⟨v5, as5, d5, ds5, p5, q5, rfl, rfl, rfl, h5, hA⟩ := trodAll_cons hA
  obtain ⟨v6, as6, d6, ds6, p6, q6, rfl, rfl, rfl, h6, hA⟩ := trodAll_cons hA
  obtain ⟨rfl, rfl, rfl⟩ := trodAll_nil hA
  obtain rfl : args = #[v0, v1, v2, v3, v4, v5, v6] := by cases args; simp_all
  obtain ⟨rfl, rfl⟩ := trodVars_none hV
  obtain ⟨x0, mv0, fv0, tv0, ev0, rfl, b0, c0⟩ := open_truth (hval 0 28 v0 rfl rfl) h0
  obtain ⟨x1, rfl, b1⟩ := open_bends (hval 1 29 v1 rfl rfl) h1
  obtain ⟨x2, b2, c2⟩ := open_dots (hval 2 30 v2 rfl rfl) h2
  obtain ⟨x3, rfl, b3⟩ := open_i64 (hval 3 3 v3 rfl rfl) h3
  obtain ⟨x4, rfl, b4⟩ := open_motion (hval 4 32 v4 rfl rfl) h4
  obtain ⟨x5, rfl, b5⟩ := open_i64 (hval 5 3 v5 rfl rfl) h5
  obtain ⟨x6, rfl, b6⟩ := open_i64 (hval 6 3 v6 rfl rfl) h6
  have hG := glob_of_laid hL
  refine (refl_any x0 mv0 fv0 tv0 ev0 x1 x2 v2 x3 x4 x5 x6 W b0 c0 b1 b2 c2 b3 b4 b5 b6 hG).mono fun e W' ⟨he, hb⟩ => ⟨_, he, ?_⟩
  exact post_law Tryd.laidOut (by kernel_rfl) rfl rfl Tryd.underlying4 rfl hW' hb
theorem refl_holds0 : Rows.RegisterMatchesReferenceSaid :=
  OpenClaim.holds_of_wide 3 Tryd.f3 rfl rfl rfl rfl rfl rfl rfl ⟨rfl, rfl, rfl, rfl, rfl⟩ rfl rfl rfl rfl rfl (by kernel_rfl) Tryd.func3 (by kernel_rfl)
    (of_decide_eq_true (by kernel_rfl)) (by unfold Func.isWrapper; first | (rw [if_pos (by decide +kernel)]; kernel_rfl) | (rw [if_neg (by decide +kernel)]; exact ⟨rfl, rfl⟩))
    (fun os started H enc _ => refl_lifted os started H enc)
theorem refl_holds : Rows.RegisterMatchesReferenceCardSaid :=
  Claim7.holds_tied_plain_at .later [] [.data, .data] true (true, "257fb0b0832290752e33024a4ba26dc05b158e05f807ca8bc62c0f441234642f") false
    refl_holds0 (fun _ h => by cases h) (by kernel_rfl) (fun _ h => by cases h) registerMatchesReference_row_tie rfl ⟨rfl, rfl⟩ (by kernel_rfl) rfl
    (fun f fn hf hfn => by
      obtain rfl : f = 3 := Option.some.inj ((show Tryd.prog.funcNamed "putlog/putloglaw11.RegisterMatchesReference" = some 3 by kernel_rfl).symm.trans hf) |>.symm
      obtain rfl : fn = Tryd.f3 := (Option.some.inj (Tryd.func3.symm.trans hfn)).symm
      exact ⟨by kernel_rfl, fun j t ht => by
        rw [Tryd.params3] at ht
        have hm : t ∈ [28, 29, 30, 3, 32, 3] := by simpa using Array.mem_of_getElem? ht
        have hall : ([28, 29, 30, 3, 32, 3].all fun u => !Tryd.prog.wantsStandIn u) = true := by kernel_rfl
        exact (show Tryd.prog.wantsStandIn t = false by simpa using List.all_eq_true.1 hall t hm)⟩)
    (by kernel_rfl)
end Go.Proofs.YtoofkahklboojaaDoor
