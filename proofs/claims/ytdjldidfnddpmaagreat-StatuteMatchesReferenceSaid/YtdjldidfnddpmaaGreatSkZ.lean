/- StatuteMatchesReference: for every input the law returns true. No condition. -/
import Derived.Test.YtdjldidfnddpmaaGreatSkD
namespace Go.Proofs.YtdjldidfnddpmaaGreat
open Go.ChangeShapes Go.WideShapes Go.ChangeAt Go.RowKit

set_option maxRecDepth 100000 in
theorem match31_lifted (os : Os) (started : os.Started) (H : Type) (enc : TypeId × Value → H) :
    ReturnsInHanded {} Tryz.checked os 3 .any (Rows.statuteMatchesReferenceSpec.pre6 enc Tryz.prog Tryz.f3 Rows.statuteMatchesReferenceRow.domain false) (Rows.statuteMatchesReferenceSpec.post enc Tryz.prog Tryz.f3 false true false false) := by
  refine returnsInHanded_of_change (C := Tryz.checked) Tryz.own started (by kernel_rfl) Tryz.func3
    (ChangeSpec.witness6 (enc := enc) (C := Tryz.checked) false ⟨#[], #[.agg #[.slice none 0 0, .slice none 0 0, .slice none 0 0], .agg #[.slice none 0 0, .slice none 0 0, .slice none 0 0], .agg #[.int .i64 0, .int .i64 0, .int .i64 0, .int .i64 0], .agg #[.int .i64 0, .int .i64 0, .int .i64 0, .int .i64 0], .int .i64 0, .int .i64 0, .int .i64 0, .slice none 0 0], []⟩ 8 (by kernel_rfl) (by kernel_rfl) (by kernel_rfl) (by kernel_rfl)) ?_
  intro W base args ds gs before hval0 hW hcnd _
  have hval : ∀ (j : Nat) t v, Tryz.f3.params[j]? = some t → args[j]? = some v → Value.okWide Tryz.prog W .any base t v := hval0
  have hW' := hW
  obtain ⟨p, q, hA0, hV, rfl, hfz, hnd⟩ := hW
  have hA : DataW.TrodAll enc Tryz.prog W 0 (fun _ => true) true Tryz.f3.params.toList args.toList ds p := hA0
  rw [Tryz.params3] at hA hval
  obtain ⟨v0, as0, d0, ds0, p0, q0, e0, rfl, rfl, h0, hA⟩ := trodAll_cons hA
  obtain ⟨v1, as1, d1, ds1, p1, q1, rfl, rfl, rfl, h1, hA⟩ := trodAll_cons hA
  obtain ⟨v2, as2, d2, ds2, p2, q2, rfl, rfl, rfl, h2, hA⟩ := trodAll_cons hA
  obtain ⟨v3, as3, d3, ds3, p3, q3, rfl, rfl, rfl, h3, hA⟩ := trodAll_cons hA
  obtain ⟨v4, as4, d4, ds4, p4, q4, rfl, rfl, rfl, h4, hA⟩ := trodAll_cons hA
  obtain ⟨v5, as5, d5, ds5, p5, q5, rfl, rfl, rfl, h5, hA⟩ := trodAll_cons hA
  obtain ⟨v6, as6, d6, ds6, p6, q6, rfl, rfl, rfl, h6, hA⟩ := trodAll_cons hA
  obtain ⟨v7, as7, d7, ds7, p7, q7, rfl, rfl, rfl, h7, hA⟩ := trodAll_cons hA
  obtain ⟨rfl, rfl, rfl⟩ := trodAll_nil hA
  obtain rfl : args = #[v0, v1, v2, v3, v4, v5, v6, v7] := by cases args; simp_all
  obtain ⟨rfl, rfl⟩ := trodVars_none hV
  obtain ⟨x0, p0, q0, r0, rfl, b0, c0⟩ := open_nums (hval 0 25 v0 rfl rfl) h0
  obtain ⟨x1, p1, q1, r1, rfl, b1⟩ := open_code (hval 1 30 v1 rfl rfl) h1
  obtain ⟨e2, f2, g2, k2, rfl, m2⟩ := open_four (hval 2 31 v2 rfl rfl) h2
  obtain ⟨x3, rfl, _⟩ := open_query (hval 3 33 v3 rfl rfl) h3
  obtain ⟨x4, rfl, b4⟩ := open_i64 (hval 4 3 v4 rfl rfl) h4
  obtain ⟨x5, rfl, b5⟩ := open_i64 (hval 5 3 v5 rfl rfl) h5
  obtain ⟨x6, rfl, b6⟩ := open_i64 (hval 6 3 v6 rfl rfl) h6
  obtain ⟨x7, b7⟩ := open_finds (hval 7 34 v7 rfl rfl) h7
  refine (match31_any x0 p0 q0 r0 x1 p1 q1 r1 e2 f2 g2 k2 x3 x4 x5 x6 x7 v7 W b0 c0 b1 m2  b4 b5 b6 b7).mono fun e W' ⟨he, hb⟩ => ⟨_, he, ?_⟩
  exact post_law Tryz.laidOut (by kernel_rfl) rfl rfl Tryz.underlying4 rfl hW' hb
theorem match31_holds : Rows.StatuteMatchesReferenceSaid :=
  OpenClaim.holds_of_wide 3 Tryz.f3 rfl rfl rfl rfl rfl rfl rfl ⟨rfl, rfl, rfl, rfl, rfl⟩ rfl rfl rfl rfl rfl (by kernel_rfl) Tryz.func3 (by kernel_rfl)
    (of_decide_eq_true (by kernel_rfl)) (by unfold Func.isWrapper; first | (rw [if_pos (by decide +kernel)]; kernel_rfl) | (rw [if_neg (by decide +kernel)]; exact ⟨rfl, rfl⟩))
    (fun os started H enc _ => match31_lifted os started H enc)
end Go.Proofs.YtdjldidfnddpmaaGreat
