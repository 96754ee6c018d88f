/- Walks of isChoice, Sum, kept, Keeps, Gain of package program. Conditions: how the arguments lie in memory. -/
import Derived.Test.YtcaklldmcbpbfaaPw4
namespace Go.Proofs.Ytcaklldmcbpbfaa
open Go.RowKit

theorem valid_vars {p : ProgD} (h : validB p = true) : 0 ≤ p.vars ∧ p.vars ≤ 12 := by
  simp only [validB, Bool.and_eq_true, isInB, decide_eq_true_eq] at h; exact h.1.1.1.1
set_option maxHeartbeats 400000 in
theorem ischoice_any (p : ProgD) (rv gv : Value) (s : Int) (w : World) (hr : RowsAt w rv p.rows) (hg : IntsAt w gv p.gain) :
    Calls Try.prog 53 #[progV p rv gv, .int .i64 s] w (Ret (.bool (choiceB p s)) w) := by
  obtain ⟨w0, hw0, hb0, c0, c1, c2⟩ := boxedProg w p.vars rv gv
  rw [← hw0] at hb0 c0 c1 c2
  have HF : Hid (choiceB p s = (validB p && isInB 0 s (2 ^ p.vars.toNat - 1))) := hide rfl
  have hr0 := hr.below hb0
  have hg0 := hg.below hb0
  clear hw0
  cases hV : validB p
  · go_enter Try.func53, Try.ntmps53
    go_wp2_with (go_at_call 20; refine (valid_any p _ _ _ hr0 hg0).mono ?_; rw [hV]; rintro e w1 ⟨rfl, hb1⟩)
    go_ret
    exact ⟨ret_bool (by rw [HF.out, hV]; rfl), below2 hb0 hb1⟩
  · have hvr := valid_vars hV
    obtain ⟨h0, h12⟩ := hvr
    go_enter Try.func53, Try.ntmps53
    go_wp2_with (go_at_call 20; refine (valid_any p _ _ _ hr0 hg0).mono ?_; rw [hV]; rintro e w1 ⟨rfl, hb1⟩; have d0 := keep hb1 c0)
    go_wp2_with (go_at_call 49; refine (isIn_any _ _ _ _).mono ?_; rintro e w2 ⟨rfl, hb2⟩)
    go_ret
    exact ⟨ret_bool (by rw [HF.out, hV, pow_wrap (by omega)]; rfl), below2 hb0 (below2 hb1 hb2)⟩
set_option maxHeartbeats 400000 in
theorem gain_any (p : ProgD) (rv gv : Value) (s : Int) (w : World) (hr : RowsAt w rv p.rows) (hg : IntsAt w gv p.gain) :
    Calls Try.prog 24 #[progV p rv gv, .int .i64 s] w (Ret (.int .i64 (gainF p s)) w) := by
  obtain ⟨w0, hw0, hb0, c0, c1, c2⟩ := boxedProg w p.vars rv gv
  rw [← hw0] at hb0 c0 c1 c2
  have HF : Hid (gainF p s = if choiceB p s then chosenF p.gain s.toNat else 0) := hide rfl
  have hr0 := hr.below hb0
  have hg0 := hg.below hb0
  clear hw0
  cases hV : choiceB p s
  · go_enter Try.func24, Try.ntmps24
    go_wp2_with (go_at_call 53; refine (ischoice_any p _ _ _ _ hr0 hg0).mono ?_; rw [hV]; rintro e w1 ⟨rfl, hb1⟩)
    go_ret
    exact ⟨ret_int (by rw [HF.out, hV]; rfl), below2 hb0 hb1⟩
  · obtain ⟨hv, h0, hs⟩ := choice_parts hV
    obtain ⟨v0, v12, -, -, hgl, hgc⟩ := valid_parts hv
    obtain ⟨n, rfl⟩ : ∃ n : Nat, s = n := ⟨s.toNat, by omega⟩
    have HV := hide hv
    have HL : Hid (p.gain.length ≤ 13) := by show _ ≤ _; omega
    clear hs hgl hv
    go_enter Try.func24, Try.ntmps24
    go_wp2_with (go_at_call 53; refine (ischoice_any p _ _ _ _ hr0 hg0).mono ?_; rw [hV]; rintro e w1 ⟨rfl, hb1⟩; have d2 := keep hb1 c2)
    go_wp2_with (go_at_call 39; refine (chosen_any p.gain n _ _ (hg0.below hb1) HL.out hgc).mono ?_; rintro e w2 ⟨rfl, hb2⟩)
    go_ret
    exact ⟨ret_int (by rw [HF.out, hV]; rfl), below2 hb0 (below2 hb1 hb2)⟩
set_option maxHeartbeats 400000 in
theorem kept_any (r : RowD) (cv : Value) (s : Nat) (w : World) (hv : IntsAt w cv r.coef) (hl : r.coef.length ≤ 13) (hb : coefsB r.coef = true) :
    Calls Try.prog 55 #[rowV r cv, .int .i64 s] w (Ret (.bool (keptB r s)) w) := by
  obtain ⟨w0, hw0, hb0, c0, c1, c2, c3, c4, c5⟩ := boxedRow w r cv
  rw [← hw0] at hb0 c4 c5
  have hv0 := hv.below hb0
  have d4 := bwc c4
  have d5 := bwc c5
  clear hw0
  go_enter Try.func55, Try.ntmps55
  go_wp2_with fail
  refine wp_region_bw (by kernel_rfl) (by kernel_rfl) ?_
  repeat (go_big_quiet_step ((go_at_call 39; exact quiet (chosen_any r.coef s _ _ (hv0.below (Bw.h _)) hl hb))))
  refine wpQuiet_nil ?_
  rintro _ ⟨i, rfl⟩
  go_wp2
  go_ret
  exact ⟨rfl, below2 hb0 i.h⟩
theorem keeps1_any (r : RowD) (cv : Value) (B : Nat) (s : Nat) (w : World) (hv : IntsAt w cv r.coef) (hl : r.coef.length ≤ 13) (hb : coefsB r.coef = true) (hB : w.cell? ⟨B, 0, none⟩ = some (.int .i64 s)) :
    Calls Try.prog 54 #[rowV r cv, .pointer (some ⟨B, 0, none⟩)] w (Ret (.bool (keptB r s)) w) := by
  have hlt : B < w.heap.size := lt_of_cell hB
  go_enter Try.func54, Try.ntmps54
  go_wp2_with (go_at_call 55; refine (kept_any r _ s _ (hv.below (bal _ _)) hl hb).mono ?_; rintro e w' ⟨rfl, hb⟩)
  go_ret
  exact ⟨rfl, below2 (bal _ _) hb⟩
set_option maxHeartbeats 400000 in
theorem keepsP_any (p : ProgD) (rv gv : Value) (s : Int) (w : World) (hr : RowsAt w rv p.rows) (hg : IntsAt w gv p.gain) :
    Calls Try.prog 22 #[progV p rv gv, .int .i64 s] w (Ret (.bool (keepsB p s)) w) := by
  obtain ⟨w0, hw0, hb0, c0, c1, c2⟩ := boxedProg w p.vars rv gv
  rw [← hw0] at hb0 c0 c1 c2
  obtain ⟨w1, hw1, hb1, hcs, -⟩ := boxed (w.alloc (.cells #[.int .i64 p.vars, rv, gv] 29)) #[.int .i64 s] 3
  have HF : Hid (keepsB p s = (choiceB p s && p.rows.all fun r => decide (chosenF r.coef s.toNat ≤ r.most))) := hide rfl
  have e0 := keep hb1 c0
  have e1 := keep hb1 c1
  have e2 := keep hb1 c2
  have e3 := hcs 0 (.int .i64 s) rfl
  rw [World.size_alloc] at e3
  have hb01 := below2 hb0 hb1
  rw [← hw1] at e0 e1 e2 e3 hb01
  have hr0 := hr.below hb01
  have hg0 := hg.below hb01
  clear hw0 hw1 hcs hb1
  cases hV : choiceB p s
  · go_enter Try.func22, Try.ntmps22
    go_wp2_with (go_at_call 53; refine (ischoice_any p _ _ _ _ hr0 hg0).mono ?_; rw [hV]; rintro e w1 ⟨rfl, hb1⟩)
    go_ret
    exact ⟨ret_bool (by rw [HF.out, hV]; rfl), below2 hb01 hb1⟩
  · obtain ⟨hv, h0, hs⟩ := choice_parts hV
    obtain ⟨v0, v12, -, hrs, -, -⟩ := valid_parts hv
    obtain ⟨n, rfl⟩ : ∃ n : Nat, s = n := ⟨s.toNat, by omega⟩
    have HO : ∀ W, Below (World.alloc (w.alloc (.cells #[.int .i64 p.vars, rv, gv] 29)) (.cells #[.int .i64 n] 3)).heap.size (World.alloc (w.alloc (.cells #[.int .i64 p.vars, rv, gv] 29)) (.cells #[.int .i64 n] 3)) W →
        OnRows 54 #[.pointer (some ⟨w.heap.size + 1, 0, none⟩)] (keptB · n) p.rows W :=
      fun W hb W' hb' r hr cv hcv => keeps1_any r cv _ n W' hcv (by have := hrs r hr; omega) (hrs r hr).2.1 (keep hb' (keep hb e3))
    have HH := hide HO
    clear hs hrs HO
    go_enter Try.func22, Try.ntmps22
    go_wp2_with (go_at_call 53; refine (ischoice_any p _ _ _ _ hr0 hg0).mono ?_; rw [hV]; rintro e w1 ⟨rfl, hb1⟩; have d1 := keep hb1 e1)
    go_wp2_with (go_at_call 46; refine (allrow_any _ _ (Go.Proofs.enters_of Try.func54 (by kernel_rfl) rfl) _ p.rows _ _ (hr0.below hb1) (HH.out _ hb1)).mono ?_; rintro e w2 ⟨rfl, hb2⟩)
    go_ret
    exact ⟨ret_bool (by rw [HF.out, hV]; rfl), below2 hb01 (below2 hb1 hb2)⟩
end Go.Proofs.Ytcaklldmcbpbfaa
