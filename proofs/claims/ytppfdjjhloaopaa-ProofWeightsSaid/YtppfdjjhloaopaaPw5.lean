/- Walks of isChoice, Sum, kept, Keeps, Gain of package program. Conditions: how the arguments lie in memory. -/
import Derived.Test.YtppfdjjhloaopaaPw4
namespace Go.Proofs.Ytppfdjjhloaopaa
open Go.RowKit

theorem valid_vars {p : ProgD} (h : validB p = true) : 0 ≤ p.vars ∧ p.vars ≤ 12 := by
  simp only [validB, Bool.and_eq_true, isInB, decide_eq_true_eq] at h; exact h.1.1.1.1
set_option maxHeartbeats 400000 in
theorem ischoice_any (p : ProgD) (rv gv : Value) (s : Int) (w : World) (hr : RowsAt w rv p.rows) (hg : IntsAt w gv p.gain) :
    Calls Try.prog 49 #[progV p rv gv, .int .i64 s] w (Ret (.bool (choiceB p s)) w) := by
  obtain ⟨w0, hw0, hb0, c0, c1, c2⟩ := boxedProg w p.vars rv gv
  rw [← hw0] at hb0 c0 c1 c2
  have HF : Hid (choiceB p s = (validB p && isInB 0 s (2 ^ p.vars.toNat - 1))) := hide rfl
  have hr0 := hr.below hb0
  have hg0 := hg.below hb0
  clear hw0
  cases hV : validB p
  · go_enter Try.func49, Try.ntmps49
    go_wp2_with (go_at_call 46; refine (valid_any p _ _ _ hr0 hg0).mono ?_; rw [hV]; rintro e w1 ⟨rfl, hb1⟩)
    go_ret
    exact ⟨ret_bool (by rw [HF.out, hV]; rfl), below2 hb0 hb1⟩
  · have hvr := valid_vars hV
    obtain ⟨h0, h12⟩ := hvr
    go_enter Try.func49, Try.ntmps49
    go_wp2_with (go_at_call 46; refine (valid_any p _ _ _ hr0 hg0).mono ?_; rw [hV]; rintro e w1 ⟨rfl, hb1⟩; have d0 := keep hb1 c0)
    go_wp2_with (go_at_call 53; refine (isIn_any _ _ _ _).mono ?_; rintro e w2 ⟨rfl, hb2⟩)
    go_ret
    exact ⟨ret_bool (by rw [HF.out, hV, pow_wrap (by omega)]; rfl), below2 hb0 (below2 hb1 hb2)⟩
set_option maxHeartbeats 400000 in
theorem gain_any (p : ProgD) (rv gv : Value) (s : Int) (w : World) (hr : RowsAt w rv p.rows) (hg : IntsAt w gv p.gain) :
    Calls Try.prog 28 #[progV p rv gv, .int .i64 s] w (Ret (.int .i64 (gainF p s)) w) := by
  obtain ⟨w0, hw0, hb0, c0, c1, c2⟩ := boxedProg w p.vars rv gv
  rw [← hw0] at hb0 c0 c1 c2
  have HF : Hid (gainF p s = if choiceB p s then chosenF p.gain s.toNat else 0) := hide rfl
  have hr0 := hr.below hb0
  have hg0 := hg.below hb0
  clear hw0
  cases hV : choiceB p s
  · go_enter Try.func28, Try.ntmps28
    go_wp2_with (go_at_call 49; refine (ischoice_any p _ _ _ _ hr0 hg0).mono ?_; rw [hV]; rintro e w1 ⟨rfl, hb1⟩)
    go_ret
    exact ⟨ret_int (by rw [HF.out, hV]; rfl), below2 hb0 hb1⟩
  · obtain ⟨hv, h0, hs⟩ := choice_parts hV
    obtain ⟨v0, v12, -, -, hgl, hgc⟩ := valid_parts hv
    obtain ⟨n, rfl⟩ : ∃ n : Nat, s = n := ⟨s.toNat, by omega⟩
    have HV := hide hv
    have HL : Hid (p.gain.length ≤ 13) := by show _ ≤ _; omega
    clear hs hgl hv
    go_enter Try.func28, Try.ntmps28
    go_wp2_with (go_at_call 49; refine (ischoice_any p _ _ _ _ hr0 hg0).mono ?_; rw [hV]; rintro e w1 ⟨rfl, hb1⟩; have d2 := keep hb1 c2)
    go_wp2_with (go_at_call 50; refine (chosen_any p.gain n _ _ (hg0.below hb1) HL.out hgc).mono ?_; rintro e w2 ⟨rfl, hb2⟩)
    go_ret
    exact ⟨ret_int (by rw [HF.out, hV]; rfl), below2 hb0 (below2 hb1 hb2)⟩
set_option maxHeartbeats 400000 in
theorem kept_any (r : RowD) (cv : Value) (s : Nat) (w : World) (hv : IntsAt w cv r.coef) (hl : r.coef.length ≤ 13) (hb : coefsB r.coef = true) :
    Calls Try.prog 74 #[rowV r cv, .int .i64 s] w (Ret (.bool (keptB r s)) w) := by
  obtain ⟨w0, hw0, hb0, c0, c1, c2, c3, c4, c5⟩ := boxedRow w r cv
  rw [← hw0] at hb0 c4 c5
  have hv0 := hv.below hb0
  have d4 := bwc c4
  have d5 := bwc c5
  clear hw0
  go_enter Try.func74, Try.ntmps74
  go_wp2_with fail
  refine wp_region_bw (by kernel_rfl) (by kernel_rfl) ?_
  repeat (go_big_quiet_step ((go_at_call 50; exact quiet (chosen_any r.coef s _ _ (hv0.below (Bw.h _)) hl hb))))
  refine wpQuiet_nil ?_
  rintro _ ⟨i, rfl⟩
  go_wp2
  go_ret
  exact ⟨rfl, below2 hb0 i.h⟩
end Go.Proofs.Ytppfdjjhloaopaa
