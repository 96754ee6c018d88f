/- RegisterChains: for every input the law returns true, where the package's two tables hold what the text lays; and its tied card. No condition. -/
import Derived.Test.YtoofkahklboojaaDoorLiftU
import Derived.Test.YtoofkahklboojaaDoorRtH
import Derived.Test.YtoofkahklboojaaDoorCards
import Derived.Test.YtoofkahklboojaaDoorTie
import Derived.SevenTiedAt
namespace Go.Proofs.YtoofkahklboojaaDoor
open Go.ChangeShapes Go.WideShapes Go.ChangeAt Go.RowKit

set_option maxRecDepth 100000 in
theorem chainl_lifted (os : Os) (started : os.Started) (H : Type) (enc : TypeId × Value → H) :
    ReturnsInHanded {} Tryd.checked os 10 .any (fun w args => (Rows.registerChainsSpec.pre enc Tryd.prog Tryd.f10 Rows.registerChainsRow.domain false w args ∧ laidMet Tryd.prog Rows.registerChainsRow.laid w) ∧ sizedMet enc Tryd.prog Tryd.f10 (OpenSpec.ofChange Rows.registerChainsSpec) false w args)
      (Rows.registerChainsSpec.post enc Tryd.prog Tryd.f10 false true false false) := by
  refine returnsInHanded_of_change_and (C := Tryd.checked) (X := fun w _ => laidMet Tryd.prog Rows.registerChainsRow.laid w) (fun _ _ _ hh h => h.of_heap hh) Tryd.own started (by kernel_rfl) Tryd.func10
    (ChangeSpec.witness_shaped (enc := enc) (C := Tryd.checked) (os := os) (X := fun w _ => laidMet Tryd.prog Rows.registerChainsRow.laid w) false (World.doorLaid Tryd.prog 33 os) #[.agg #[.slice none 0 0, .slice none 0 0, .int .i64 0, .int .i64 0, .int .i64 0, .slice none 0 0, .slice none 0 0], .agg #[.int .i64 0, .int .i64 0, .int .i64 0], .slice none 0 0, .slice none 0 0] 8 rfl (World.shaped_of_RefB (by kernel_rfl) (by kernel_rfl)) (by kernel_rfl) (by kernel_rfl) (by kernel_rfl) (door_met os _)) ?_
  intro W base args ds gs before hval0 hW hcnd0 _ hL _
  have hval : ∀ (j : Nat) t v, Tryd.f10.params[j]? = some t → args[j]? = some v → Value.okWide Tryd.prog W .any base t v := hval0
  have hW' := hW
  obtain ⟨p, q, hA0, hV, rfl, hfz, hnd⟩ := hW
  have hA : DataW.TrodAll enc Tryd.prog W 0 (fun _ => true) true Tryd.f10.params.toList args.toList ds p := hA0
  rw [Tryd.params10] at hA hval
  obtain ⟨v0, as0, d0, ds0, p0, q0, e0, rfl, rfl, h0, hA⟩ := trodAll_cons hA
  obtain ⟨v1, as1, d1, ds1, p1, q1, rfl, rfl, rfl, h1, hA⟩ := trodAll_cons hA
  obtain ⟨v2, as2, d2, ds2, p2, q2, rfl, rfl, rfl, h2, hA⟩ := trodAll_cons hA
  obtain ⟨v3, as3, d3, ds3, p3, q3, rfl, rfl, rfl, h3, hA⟩ := trodAll_cons hA
  obtain ⟨rfl, rfl, rfl⟩ := trodAll_nil hA
  obtain rfl : args = #[v0, v1, v2, v3] := by cases args; simp_all
  obtain ⟨rfl, rfl⟩ := trodVars_none hV
  obtain ⟨x0, mv0, fv0, tv0, ev0, rfl, b0, c0⟩ := open_truth (hval 0 28 v0 rfl rfl) h0
  obtain ⟨x1, rfl, b1⟩ := open_three (hval 1 24 v1 rfl rfl) h1
  obtain ⟨x2, b2, c2⟩ := open_ints (hval 2 25 v2 rfl rfl) h2
  obtain ⟨x3, b3, c3⟩ := open_quads (hval 3 26 v3 rfl rfl) h3
  have hG := glob_of_laid hL
  refine (chainl_any x0 mv0 fv0 tv0 ev0 x1 x2 v2 x3 v3 W b0 c0 b1 b2 c2 b3 c3 hG).mono fun e W' ⟨he, hb⟩ => ⟨_, he, ?_⟩
  exact post_law Tryd.laidOut (by kernel_rfl) rfl rfl Tryd.underlying4 rfl hW' hb
theorem chainl_holds0 : Rows.RegisterChainsSaid :=
  OpenClaim.holds_of_wide 10 Tryd.f10 rfl rfl rfl rfl rfl rfl rfl ⟨rfl, rfl, rfl, rfl, rfl⟩ rfl rfl rfl rfl rfl (by kernel_rfl) Tryd.func10 (by kernel_rfl)
    (of_decide_eq_true (by kernel_rfl)) (by unfold Func.isWrapper; first | (rw [if_pos (by decide +kernel)]; kernel_rfl) | (rw [if_neg (by decide +kernel)]; exact ⟨rfl, rfl⟩))
    (fun os started H enc _ => chainl_lifted os started H enc)
theorem chainl_holds : Rows.RegisterChainsCardSaid :=
  Claim7.holds_tied_plain_at .later [] [.data, .data] true (true, "257fb0b0832290752e33024a4ba26dc05b158e05f807ca8bc62c0f441234642f") false
    chainl_holds0 (fun _ h => by cases h) (by kernel_rfl) (fun _ h => by cases h) registerChains_row_tie rfl ⟨rfl, rfl⟩ (by kernel_rfl) rfl
    (fun f fn hf hfn => by
      obtain rfl : f = 10 := Option.some.inj ((show Tryd.prog.funcNamed "putlog/putloglaw11.RegisterChains" = some 10 by kernel_rfl).symm.trans hf) |>.symm
      obtain rfl : fn = Tryd.f10 := (Option.some.inj (Tryd.func10.symm.trans hfn)).symm
      exact ⟨by kernel_rfl, fun j t ht => by
        rw [Tryd.params10] at ht
        have hm : t ∈ [28, 24, 25, 26] := by simpa using Array.mem_of_getElem? ht
        have hall : ([28, 24, 25, 26].all fun u => !Tryd.prog.wantsStandIn u) = true := by kernel_rfl
        exact (show Tryd.prog.wantsStandIn t = false by simpa using List.all_eq_true.1 hall t hm)⟩)
    (by kernel_rfl)
end Go.Proofs.YtoofkahklboojaaDoor
