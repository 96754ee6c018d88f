/- Walks of Sum and Broken of package program. Conditions: how the arguments lie in memory. -/
import Derived.Test.YtcaklldmcbpbfaaPw5
import Derived.Test.YtcaklldmcbpbfaaOwn
namespace Go.Proofs.Ytcaklldmcbpbfaa
open Go.RowKit

set_option maxHeartbeats 1000000 in
theorem broken_any (p : ProgD) (rv gv : Value) (s : Int) (w : World) (hr : RowsAt w rv p.rows) (hg : IntsAt w gv p.gain) :
    Calls Try.prog 26 #[progV p rv gv, .int .i64 s] w (RetM (fun c v => IntsIn c v (brokenF p s)) w) := by
  obtain ⟨a, c, rfl, hlc, hcm, hc⟩ := id hr
  obtain ⟨w0, hw0, hb0, c0, c1, c2⟩ := boxedProg w p.vars (.slice a p.rows.length c) gv
  have hz0 : w.heap.size < w0.heap.size := by rw [← hw0]; simp
  have HW := hide hw0
  rw [← hw0] at hb0 c0 c1 c2
  have HF : Hid (brokenF p s = if choiceB p s then brokenUp p.rows s.toNat p.rows.length else []) := hide rfl
  have hr0 := hr.below hb0
  have hg0 := hg.below hb0
  clear hw0
  cases hV : choiceB p s
  · go_enter Try.func26, Try.ntmps26
    go_wp2_with (go_at_call 53; refine (ischoice_any p _ _ _ _ hr0 hg0).mono ?_; rw [hV]; rintro e w1 ⟨rfl, hb1⟩)
    go_ret
    exact ⟨_, rfl, by rw [HF.out, hV]; exact IntsIn.nil _, below2 hb0 hb1⟩
  · obtain ⟨hv, h0, hs⟩ := choice_parts hV
    obtain ⟨v0, v12, hfew, hrs, -, -⟩ := valid_parts hv
    obtain ⟨n, rfl⟩ : ∃ n : Nat, s = n := ⟨s.toNat, by omega⟩
    have HR := hide hrs
    clear hs hv hrs
    go_enter Try.func26, Try.ntmps26
    go_wp2_with (go_at_call 53; refine (ischoice_any p _ _ _ _ hr0 hg0).mono ?_; rw [hV]; rintro e w1 ⟨rfl, hb1⟩; have d1 := keep hb1 c1)
    go_loopw [5, 16] (fun v i wr => ∃ (k : Nat), k ≤ p.rows.length ∧ i = .int .i64 k ∧ OwnI wr w1.heap.size v (brokenUp p.rows n k) ∧ Below w1.heap.size w1 wr) (fun _ i _ => p.rows.length - (intOf i).toNat)
    case atStart => exact ⟨0, by omega, rfl, OwnI.nil _ _, Below.refl _ _⟩
    case round =>
      obtain ⟨k, hk, rfl, hown, hbr⟩ := hrel
      by_cases hlt : k < p.rows.length
      · obtain ⟨b, o, cv, rfl, hck⟩ := hc k hlt
        have hm := getD_mem p.rows k (d := row0) hlt
        have HY := hide (brokenUp_yes (l := p.rows) (s := n) (k := k))
        have HN := hide (brokenUp_no (l := p.rows) (s := n) (k := k))
        have hle := brokenUp_le p.rows n k
        have hq := HR.out _ hm
        generalize p.rows.getD k row0 = x at hck hm HY HN hq
        obtain ⟨e0, e1, e2, e3, e4, e5, e6⟩ := hck.below (below2 hb0 (below2 hb1 hbr))
        obtain ⟨ca, cc, rfl, -, -, -⟩ := id e6
        clear hc hck
        cases hx : keptB x n
        · go_wp2_with (first | (go_at_call 55; refine (kept_any x _ n _ (e6.below (bal _ _)) (by omega) hq.2.1).mono ?_; rw [hx]; rintro e w2 ⟨rfl, hb2⟩; have hbx := below2 (bal wr _) hb2; have hown2 := hown.later hbx) | (at_builtin; refine app_int rfl _ _ rfl w1.heap.size _ _ rfl hown2 k rfl (by omega) (by have := hbr.size; have := hbx.size; omega) ?_; intro v' w3 hown3 hb3 hz3))
          go_roundw
          case rel => exact ⟨k + 1, by omega, by go_num, by rw [HN.out hx]; exact hown3, hbr.trans ((hbx.mono hbr.size).trans hb3)⟩
          case measure => simp [intOf]; omega
        · go_wp2_with (go_at_call 55; refine (kept_any x _ n _ (e6.below (bal _ _)) (by omega) hq.2.1).mono ?_; rw [hx]; rintro e w2 ⟨rfl, hb2⟩)
          have hbx := below2 (bal wr _) hb2
          go_roundw
          case rel => exact ⟨k + 1, by omega, by go_num, by rw [HY.out hx]; exact hown.later hbx, hbr.trans (hbx.mono hbr.size)⟩
          case measure => simp [intOf]; omega
      · go_wp2
        go_ret
        obtain rfl : k = p.rows.length := by omega
        exact ⟨_, rfl, by rw [HF.out, hV]; exact hown.intsF (below2 hb0 hb1).size, below2 hb0 (below2 hb1 hbr)⟩
set_option maxHeartbeats 1000000 in
theorem sum_any (r : RowD) (cv : Value) (s : Int) (w : World) (hv : IntsAt w cv r.coef) :
    Calls Try.prog 28 #[rowV r cv, .int .i64 s] w (Ret (.int .i64 (sumF r s)) w) := by
  obtain ⟨a, c, rfl, hlc, hcm, -⟩ := id hv
  have hm1 : (r.coef.length : Int) ≤ 9223372036854775807 := by omega
  obtain ⟨w0, hw0, hb0, c0, c1, c2, c3, c4, c5⟩ := boxedRow w r (.slice a r.coef.length c)
  rw [← hw0] at hb0 c0 c1 c2 c3 c4 c5
  have hv0 := hv.below hb0
  clear hw0
  have HF : Hid (sumF r s = if decide (r.coef.length ≤ 12) && rightB r r.coef.length && isInB 0 s (2 ^ r.coef.length - 1) then chosenF r.coef s.toNat else 0) := hide rfl
  by_cases h12 : r.coef.length ≤ 12
  · have hn : ¬ (12 : Int) < (r.coef.length : Int) := by omega
    have hd : Hid (decide (r.coef.length ≤ 12) = true) := hide (by simpa using h12)
    cases hR : rightB r r.coef.length
    · go_enter Try.func28, Try.ntmps28
      go_wp2_with (go_at_call 48; refine (right_any r _ _ _ hv0).mono ?_; rw [hR]; rintro e w1 ⟨rfl, hb1⟩)
      go_ret
      exact ⟨ret_int (by rw [HF.out, hR, Bool.and_false, Bool.false_and]; rfl), below2 hb0 hb1⟩
    · cases hI : isInB 0 s (2 ^ r.coef.length - 1)
      · go_enter Try.func28, Try.ntmps28
        go_wp2_with (go_at_call 48; refine (right_any r _ _ _ hv0).mono ?_; rw [hR]; rintro e w1 ⟨rfl, hb1⟩)
        go_wp2_with (go_at_call 49; refine (isIn_any _ _ _ _).mono ?_; rw [pow_wrap (by omega), hI]; rintro e w2 ⟨rfl, hb2⟩)
        go_ret
        exact ⟨ret_int (by rw [HF.out, hI, Bool.and_false]; rfl), below2 hb0 (below2 hb1 hb2)⟩
      · have hc : coefsB r.coef = true := by simp only [rightB, Bool.and_eq_true] at hR; exact hR.1.2
        have h0 : 0 ≤ s := by simp only [isInB, decide_eq_true_eq] at hI; exact hI.1
        obtain ⟨n, rfl⟩ : ∃ n : Nat, s = n := ⟨s.toNat, by omega⟩
        go_enter Try.func28, Try.ntmps28
        go_wp2_with (go_at_call 48; refine (right_any r _ _ _ hv0).mono ?_; rw [hR]; rintro e w1 ⟨rfl, hb1⟩; have d4 := keep hb1 c4)
        go_wp2_with (go_at_call 49; refine (isIn_any _ _ _ _).mono ?_; rw [pow_wrap (by omega), hI]; rintro e w2 ⟨rfl, hb2⟩; have e4 := keep hb2 d4)
        go_wp2_with (go_at_call 39; refine (chosen_any r.coef n _ _ (hv0.below (below2 hb1 hb2)) (by omega) hc).mono ?_; rintro e w3 ⟨rfl, hb3⟩)
        go_ret
        exact ⟨ret_int (by rw [HF.out, hd.out, hR, hI]; rfl), below2 hb0 (below2 hb1 (below2 hb2 hb3))⟩
  · have hn : (12 : Int) < (r.coef.length : Int) := by omega
    have hd : Hid (decide (r.coef.length ≤ 12) = false) := hide (by simpa using h12)
    go_enter Try.func28, Try.ntmps28
    go_wp2_with fail
    go_ret
    exact ⟨ret_int (by rw [HF.out, hd.out, Bool.false_and, Bool.false_and]; rfl), hb0⟩
end Go.Proofs.Ytcaklldmcbpbfaa
