/- OrderLines: for every input the law returns true, where the package's two tables hold what the text lays; and its tied card. No condition. -/
import Derived.Test.YtnidcoinfmcffaaDoorLiftO
import Derived.Test.YtnidcoinfmcffaaDoorOuG
import Derived.Test.YtnidcoinfmcffaaDoorCards
import Derived.Test.YtnidcoinfmcffaaDoorTie
import Derived.SevenTiedAt
namespace Go.Proofs.YtnidcoinfmcffaaDoor
open Go.ChangeShapes Go.WideShapes Go.ChangeAt Go.RowKit

set_option maxRecDepth 100000 in
theorem lines_lifted (os : Os) (started : os.Started) (H : Type) (enc : TypeId × Value → H) :
    ReturnsInHanded {} Tryd.checked os 4 .any (fun w args => (Rows.orderLinesSpec.pre enc Tryd.prog Tryd.f4 Rows.orderLinesRow.domain false w args ∧ laidMet Tryd.prog Rows.orderLinesRow.laid w) ∧ sizedMet enc Tryd.prog Tryd.f4 (OpenSpec.ofChange Rows.orderLinesSpec) false w args)
      (Rows.orderLinesSpec.post enc Tryd.prog Tryd.f4 false true false false) := by
  refine returnsInHanded_of_change_and (C := Tryd.checked) (X := fun w _ => laidMet Tryd.prog Rows.orderLinesRow.laid w) (fun _ _ _ hh h => h.of_heap hh) Tryd.own started (by kernel_rfl) Tryd.func4
    (ChangeSpec.witness_shaped (enc := enc) (C := Tryd.checked) (os := os) (X := fun w _ => laidMet Tryd.prog Rows.orderLinesRow.laid w) false (World.doorLaid Tryd.prog 33 os) #[.int .i64 0, .slice none 0 0, .int .i64 0, .slice none 0 0] 8 rfl (World.shaped_of_RefB (by kernel_rfl) (by kernel_rfl)) (by kernel_rfl) (by kernel_rfl) (by kernel_rfl) (door_met os _)) ?_
  intro W base args ds gs before hval0 hW hcnd0 _ hL _
  have hval : ∀ (j : Nat) t v, Tryd.f4.params[j]? = some t → args[j]? = some v → Value.okWide Tryd.prog W .any base t v := hval0
  have hW' := hW
  obtain ⟨p, q, hA0, hV, rfl, hfz, hnd⟩ := hW
  have hA : DataW.TrodAll enc Tryd.prog W 0 (fun _ => true) true Tryd.f4.params.toList args.toList ds p := hA0
  rw [Tryd.params4] at hA hval
  obtain ⟨v0, as0, d0, ds0, p0, q0, e0, rfl, rfl, h0, hA⟩ := trodAll_cons hA
  obtain ⟨v1, as1, d1, ds1, p1, q1, rfl, rfl, rfl, h1, hA⟩ := trodAll_cons hA
  obtain ⟨v2, as2, d2, ds2, p2, q2, rfl, rfl, rfl, h2, hA⟩ := trodAll_cons hA
  obtain ⟨v3, as3, d3, ds3, p3, q3, rfl, rfl, rfl, h3, hA⟩ := trodAll_cons hA
  obtain ⟨rfl, rfl, rfl⟩ := trodAll_nil hA
  obtain rfl : args = #[v0, v1, v2, v3] := by cases args; simp_all
  obtain ⟨rfl, rfl⟩ := trodVars_none hV
  obtain ⟨x0, rfl, b0⟩ := open_i64 (hval 0 3 v0 rfl rfl) h0
  obtain ⟨x1, b1, c1⟩ := open_pairs (hval 1 22 v1 rfl rfl) h1
  obtain ⟨x2, rfl, b2⟩ := open_i64 (hval 2 3 v2 rfl rfl) h2
  obtain ⟨x3, b3, c3⟩ := open_ints (hval 3 26 v3 rfl rfl) h3
  have hG := glob_of_laid hL
  refine (lines_any x0 x1 v1 x2 x3 v3 W b0 b1 c1 b2 b3 c3 hG).mono fun e W' ⟨he, hb⟩ => ⟨_, he, ?_⟩
  exact post_law Tryd.laidOut (by kernel_rfl) rfl rfl Tryd.underlying4 rfl hW' hb
theorem lines_holds0 : Rows.OrderLinesSaid :=
  OpenClaim.holds_of_wide 4 Tryd.f4 rfl rfl rfl rfl rfl rfl rfl ⟨rfl, rfl, rfl, rfl, rfl⟩ rfl rfl rfl rfl rfl (by kernel_rfl) Tryd.func4 (by kernel_rfl)
    (of_decide_eq_true (by kernel_rfl)) (by unfold Func.isWrapper; first | (rw [if_pos (by decide +kernel)]; kernel_rfl) | (rw [if_neg (by decide +kernel)]; exact ⟨rfl, rfl⟩))
    (fun os started H enc _ => lines_lifted os started H enc)
theorem lines_holds : Rows.OrderLinesCardSaid :=
  Claim7.holds_tied_plain_at .later [] [.data, .data] true (true, "a03e51b0cfb03c3b5e3990621fc1dab324afc9dacbdb1aa63b29b85e98f9607e") false
    lines_holds0 (fun _ h => by cases h) (by kernel_rfl) (fun _ h => by cases h) orderLines_row_tie rfl ⟨rfl, rfl⟩ (by kernel_rfl) rfl
    (fun f fn hf hfn => by
      obtain rfl : f = 4 := Option.some.inj ((show Tryd.prog.funcNamed "putlog/putloglaw15.OrderLines" = some 4 by kernel_rfl).symm.trans hf) |>.symm
      obtain rfl : fn = Tryd.f4 := (Option.some.inj (Tryd.func4.symm.trans hfn)).symm
      exact ⟨by kernel_rfl, fun j t ht => by
        rw [Tryd.params4] at ht
        have hm : t ∈ [3, 22, 26] := by (have h := Array.mem_of_getElem? ht); simp at h ⊢; first | exact h | (rcases h with h | h <;> simp [h]) | (rcases h with h | h | h <;> simp [h]) | (rcases h with h | h | h | h <;> simp [h])
        have hall : ([3, 22, 26].all fun u => !Tryd.prog.wantsStandIn u) = true := by kernel_rfl
        exact (show Tryd.prog.wantsStandIn t = false by simpa using List.all_eq_true.1 hall t hm)⟩)
    (by kernel_rfl)
end Go.Proofs.YtnidcoinfmcffaaDoor
