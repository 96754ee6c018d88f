/- OrderCycles: for every input the law returns true, where the package's two tables hold what the text lays; and its tied card. No condition. -/
import Derived.Test.YtnidcoinfmcffaaDoorLiftO
import Derived.Test.YtnidcoinfmcffaaDoorOuF
import Derived.Test.YtnidcoinfmcffaaDoorCards
import Derived.Test.YtnidcoinfmcffaaDoorTie
import Derived.SevenTiedAt
namespace Go.Proofs.YtnidcoinfmcffaaDoor
open Go.ChangeShapes Go.WideShapes Go.ChangeAt Go.RowKit

set_option maxRecDepth 100000 in
theorem cycles_lifted (os : Os) (started : os.Started) (H : Type) (enc : TypeId × Value → H) :
    ReturnsInHanded {} Tryd.checked os 8 .any (fun w args => (Rows.orderCyclesSpec.pre enc Tryd.prog Tryd.f8 Rows.orderCyclesRow.domain false w args ∧ laidMet Tryd.prog Rows.orderCyclesRow.laid w) ∧ sizedMet enc Tryd.prog Tryd.f8 (OpenSpec.ofChange Rows.orderCyclesSpec) false w args)
      (Rows.orderCyclesSpec.post enc Tryd.prog Tryd.f8 false true false false) := by
  refine returnsInHanded_of_change_and (C := Tryd.checked) (X := fun w _ => laidMet Tryd.prog Rows.orderCyclesRow.laid w) (fun _ _ _ hh h => h.of_heap hh) Tryd.own started (by kernel_rfl) Tryd.func8
    (ChangeSpec.witness_shaped (enc := enc) (C := Tryd.checked) (os := os) (X := fun w _ => laidMet Tryd.prog Rows.orderCyclesRow.laid w) false (World.doorLaid Tryd.prog 33 os) #[.int .i64 0, .slice none 0 0, .slice none 0 0, .int .i64 0, .int .i64 0] 8 rfl (World.shaped_of_RefB (by kernel_rfl) (by kernel_rfl)) (by kernel_rfl) (by kernel_rfl) (by kernel_rfl) (door_met os _)) ?_
  intro W base args ds gs before hval0 hW hcnd0 _ hL _
  have hval : ∀ (j : Nat) t v, Tryd.f8.params[j]? = some t → args[j]? = some v → Value.okWide Tryd.prog W .any base t v := hval0
  have hW' := hW
  obtain ⟨p, q, hA0, hV, rfl, hfz, hnd⟩ := hW
  have hA : DataW.TrodAll enc Tryd.prog W 0 (fun _ => true) true Tryd.f8.params.toList args.toList ds p := hA0
  rw [Tryd.params8] at hA hval
  obtain ⟨v0, as0, d0, ds0, p0, q0, e0, rfl, rfl, h0, hA⟩ := trodAll_cons hA
  obtain ⟨v1, as1, d1, ds1, p1, q1, rfl, rfl, rfl, h1, hA⟩ := trodAll_cons hA
  obtain ⟨v2, as2, d2, ds2, p2, q2, rfl, rfl, rfl, h2, hA⟩ := trodAll_cons hA
  obtain ⟨v3, as3, d3, ds3, p3, q3, rfl, rfl, rfl, h3, hA⟩ := trodAll_cons hA
  obtain ⟨v4, as4, d4, ds4, p4, q4, rfl, rfl, rfl, h4, hA⟩ := trodAll_cons hA
  obtain ⟨rfl, rfl, rfl⟩ := trodAll_nil hA
  obtain rfl : args = #[v0, v1, v2, v3, v4] := by cases args; simp_all
  obtain ⟨rfl, rfl⟩ := trodVars_none hV
  obtain ⟨x0, rfl, b0⟩ := open_i64 (hval 0 3 v0 rfl rfl) h0
  obtain ⟨x1, b1, c1⟩ := open_pairs (hval 1 22 v1 rfl rfl) h1
  obtain ⟨x2, b2, c2⟩ := open_ints (hval 2 26 v2 rfl rfl) h2
  obtain ⟨x3, rfl, b3⟩ := open_i64 (hval 3 3 v3 rfl rfl) h3
  obtain ⟨x4, rfl, b4⟩ := open_i64 (hval 4 3 v4 rfl rfl) h4
  have hG := glob_of_laid hL
  refine (cycles_any x0 x1 v1 x2 v2 x3 x4 W b0 b1 c1 b2 c2 b3 b4 hG).mono fun e W' ⟨he, hb⟩ => ⟨_, he, ?_⟩
  exact post_law Tryd.laidOut (by kernel_rfl) rfl rfl Tryd.underlying4 rfl hW' hb
theorem cycles_holds0 : Rows.OrderCyclesSaid :=
  OpenClaim.holds_of_wide 8 Tryd.f8 rfl rfl rfl rfl rfl rfl rfl ⟨rfl, rfl, rfl, rfl, rfl⟩ rfl rfl rfl rfl rfl (by kernel_rfl) Tryd.func8 (by kernel_rfl)
    (of_decide_eq_true (by kernel_rfl)) (by unfold Func.isWrapper; first | (rw [if_pos (by decide +kernel)]; kernel_rfl) | (rw [if_neg (by decide +kernel)]; exact ⟨rfl, rfl⟩))
    (fun os started H enc _ => cycles_lifted os started H enc)
theorem cycles_holds : Rows.OrderCyclesCardSaid :=
  Claim7.holds_tied_plain_at .later [] [.data, .data] true (true, "a03e51b0cfb03c3b5e3990621fc1dab324afc9dacbdb1aa63b29b85e98f9607e") false
    cycles_holds0 (fun _ h => by cases h) (by kernel_rfl) (fun _ h => by cases h) orderCycles_row_tie rfl ⟨rfl, rfl⟩ (by kernel_rfl) rfl
    (fun f fn hf hfn => by
      obtain rfl : f = 8 := Option.some.inj ((show Tryd.prog.funcNamed "putlog/putloglaw15.OrderCycles" = some 8 by kernel_rfl).symm.trans hf) |>.symm
      obtain rfl : fn = Tryd.f8 := (Option.some.inj (Tryd.func8.symm.trans hfn)).symm
      exact ⟨by kernel_rfl, fun j t ht => by
        rw [Tryd.params8] at ht
        have hm : t ∈ [3, 22, 26] := by (have h := Array.mem_of_getElem? ht); simp at h ⊢; first | exact h | (rcases h with h | h <;> simp [h]) | (rcases h with h | h | h <;> simp [h]) | (rcases h with h | h | h | h <;> simp [h])
        have hall : ([3, 22, 26].all fun u => !Tryd.prog.wantsStandIn u) = true := by kernel_rfl
        exact (show Tryd.prog.wantsStandIn t = false by simpa using List.all_eq_true.1 hall t hm)⟩)
    (by kernel_rfl)
end Go.Proofs.YtnidcoinfmcffaaDoor
