/- StatuteExceptions: for every input the law returns true. No condition. -/
import Derived.Test.YtdjldidfnddpmaaLiftW
import Derived.Test.YtdjldidfnddpmaaSxI
namespace Go.Proofs.Ytdjldidfnddpmaa
open Go.ChangeShapes Go.WideShapes Go.ChangeAt Go.RowKit

set_option maxRecDepth 100000 in
theorem exceptions_lifted (os : Os) (started : os.Started) (H : Type) (enc : TypeId × Value → H) :
    ReturnsInHanded {} Try.checked os 7 .any (Rows.statuteExceptionsSpec.pre6 enc Try.prog Try.f7 Rows.statuteExceptionsRow.domain false) (Rows.statuteExceptionsSpec.post enc Try.prog Try.f7 false true false false) := by
  refine returnsInHanded_of_change (C := Try.checked) Try.own started (by kernel_rfl) Try.func7
    (ChangeSpec.witness6 (enc := enc) (C := Try.checked) false ⟨#[], #[.agg #[.slice none 0 0, .slice none 0 0, .slice none 0 0], .agg #[.int .i64 0, .int .i64 0, .int .i64 0, .int .i64 0], .int .i64 0, .int .i64 0, .agg #[.int .i64 0, .int .i64 0]], []⟩ 8 (by kernel_rfl) (by kernel_rfl) (by kernel_rfl) (by kernel_rfl)) ?_
  intro W base args ds gs before hval0 hW hcnd _
  have hval : ∀ (j : Nat) t v, Try.f7.params[j]? = some t → args[j]? = some v → Value.okWide Try.prog W .any base t v := hval0
  have hW' := hW
  obtain ⟨p, q, hA0, hV, rfl, hfz, hnd⟩ := hW
  have hA : DataW.TrodAll enc Try.prog W 0 (fun _ => true) true Try.f7.params.toList args.toList ds p := hA0
  rw [Try.params7] at hA hval
  obtain ⟨v0, as0, d0, ds0, p0, q0, e0, rfl, rfl, h0, hA⟩ := trodAll_cons hA
  obtain ⟨v1, as1, d1, ds1, p1, q1, rfl, rfl, rfl, h1, hA⟩ := trodAll_cons hA
  obtain ⟨v2, as2, d2, ds2, p2, q2, rfl, rfl, rfl, h2, hA⟩ := trodAll_cons hA
  obtain ⟨v3, as3, d3, ds3, p3, q3, rfl, rfl, rfl, h3, hA⟩ := trodAll_cons hA
  obtain ⟨v4, as4, d4, ds4, p4, q4, rfl, rfl, rfl, h4, hA⟩ := trodAll_cons hA
  obtain ⟨rfl, rfl, rfl⟩ := trodAll_nil hA
  obtain rfl : args = #[v0, v1, v2, v3, v4] := by cases args; simp_all
  obtain ⟨rfl, rfl⟩ := trodVars_none hV
  obtain ⟨x0, p0, q0, r0, rfl, b0, c0⟩ := open_nums (hval 0 25 v0 rfl rfl) h0
  obtain ⟨e1, f1, g1, k1, rfl, m1⟩ := open_four (hval 1 26 v1 rfl rfl) h1
  obtain ⟨x2, rfl, b2⟩ := open_i64 (hval 2 3 v2 rfl rfl) h2
  obtain ⟨x3, rfl, b3⟩ := open_i64 (hval 3 3 v3 rfl rfl) h3
  obtain ⟨y4, z4, rfl, n4⟩ := open_two (hval 4 27 v4 rfl rfl) h4
  refine (exceptions_any x0 p0 q0 r0 e1 f1 g1 k1 x2 x3 y4 z4 W b0 c0 m1 b2 b3 n4).mono fun e W' ⟨he, hb⟩ => ⟨_, he, ?_⟩
  exact post_law Try.laidOut (by kernel_rfl) rfl rfl Try.underlying4 rfl hW' hb
theorem exceptions_holds : Rows.StatuteExceptionsSaid :=
  OpenClaim.holds_of_wide 7 Try.f7 rfl rfl rfl rfl rfl rfl rfl ⟨rfl, rfl, rfl, rfl, rfl⟩ rfl rfl rfl rfl rfl (by kernel_rfl) Try.func7 (by kernel_rfl)
    (of_decide_eq_true (by kernel_rfl)) (by unfold Func.isWrapper; first | (rw [if_pos (by decide +kernel)]; kernel_rfl) | (rw [if_neg (by decide +kernel)]; exact ⟨rfl, rfl⟩))
    (fun os started H enc _ => exceptions_lifted os started H enc)
end Go.Proofs.Ytdjldidfnddpmaa
