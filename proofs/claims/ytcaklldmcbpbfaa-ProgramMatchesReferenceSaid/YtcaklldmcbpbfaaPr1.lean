/- Walks of row, Valid, Sum of the reference. Conditions: how the arguments lie in memory. -/
import Derived.Test.YtcaklldmcbpbfaaPw1
import Derived.Test.YtcaklldmcbpbfaaPw6
namespace Go.Proofs.Ytcaklldmcbpbfaa
open Go.RowKit

set_option maxHeartbeats 1000000 in
theorem rowr_any (r : RowD) (cv : Value) (vars : Int) (w : World) (hv : IntsAt w cv r.coef) :
    Calls Try.prog 52 #[rowV r cv, .int .i64 vars] w (Ret (.bool (rightB r vars)) w) := by
  obtain ⟨a, c, rfl, hlc, hcm, -⟩ := id hv
  have hm1 : (r.coef.length : Int) ≤ 9223372036854775807 := by omega
  obtain ⟨w0, hw0, hb0, c0, c1, c2, c3, c4, c5⟩ := boxedRow w r (.slice a r.coef.length c)
  rw [← hw0] at hb0 c4 c5
  have hv0 := hv.below hb0
  have HF : Hid (rightB r vars = (lenB r.coef.length vars && coefsB r.coef && isInB (-1000000000000) r.most 1000000000000)) := hide rfl
  clear hw0 c0 c1 c2 c3
  by_cases h1 : (r.coef.length : Int) = vars
  · have H1 : Hid (lenB r.coef.length vars = true) := hide (by simp [lenB, h1])
    have e1 : ((r.coef.length : Int) == vars) = true := by simp [h1]
    clear h1
    cases h2 : coefsB r.coef
    · have h2' : r.coef.all bndB = false := h2
      go_enter Try.func52, Try.ntmps52
      go_wp2_with (go_at_call 51; refine (bounded_any r.coef _ _ hv0).mono ?_; rw [h2']; rintro e w1 ⟨rfl, hb1⟩)
      go_ret
      exact ⟨ret_bool (by rw [HF.out, H1.out, h2]; rfl), below2 hb0 hb1⟩
    · have h2' : r.coef.all bndB = true := h2
      by_cases h3 : -1000000000000 ≤ r.most
      · by_cases h4 : r.most ≤ 1000000000000
        · go_enter Try.func52, Try.ntmps52
          go_wp2_with (go_at_call 51; refine (bounded_any r.coef _ _ hv0).mono ?_; rw [h2']; rintro e w1 ⟨rfl, hb1⟩; have d5 := keep hb1 c5)
          go_ret
          exact ⟨ret_bool (by rw [HF.out, H1.out, h2]; simp [isInB]; omega), below2 hb0 hb1⟩
        · go_enter Try.func52, Try.ntmps52
          go_wp2_with (go_at_call 51; refine (bounded_any r.coef _ _ hv0).mono ?_; rw [h2']; rintro e w1 ⟨rfl, hb1⟩; have d5 := keep hb1 c5)
          go_ret
          exact ⟨ret_bool (by rw [HF.out, H1.out, h2]; simp [isInB]; omega), below2 hb0 hb1⟩
      · go_enter Try.func52, Try.ntmps52
        go_wp2_with (go_at_call 51; refine (bounded_any r.coef _ _ hv0).mono ?_; rw [h2']; rintro e w1 ⟨rfl, hb1⟩; have d5 := keep hb1 c5)
        go_ret
        exact ⟨ret_bool (by rw [HF.out, H1.out, h2]; simp [isInB]; omega), below2 hb0 hb1⟩
  · have H1 : Hid (lenB r.coef.length vars = false) := hide (by simp [lenB, h1])
    have e1 : ((r.coef.length : Int) == vars) = false := by simp [h1]
    clear h1
    go_enter Try.func52, Try.ntmps52
    go_wp2_with fail
    go_ret
    exact ⟨ret_bool (by rw [HF.out, H1.out]; rfl), hb0⟩
theorem rows_no {p : ProgD} {k : Nat} (hk : k < p.rows.length) (h : rightB (p.rows.getD k row0) p.vars = false) : rowsB p.rows p.vars = false := all_no (d := row0) hk h
/-- the reference's first test -/
def headB (p : ProgD) : Bool := isInB 0 p.vars 12 && fewB p.rows.length && lenB p.gain.length p.vars && coefsB p.gain
theorem validB_head (p : ProgD) : validB p = (headB p && rowsB p.rows p.vars) := by
  unfold validB headB
  cases isInB 0 p.vars 12 <;> cases fewB p.rows.length <;> cases rowsB p.rows p.vars <;> cases lenB p.gain.length p.vars <;> cases coefsB p.gain <;> rfl
set_option maxHeartbeats 2000000 in
theorem validr_any (p : ProgD) (rv gv : Value) (w : World) (hr : RowsAt w rv p.rows) (hg : IntsAt w gv p.gain) :
    Calls Try.prog 21 #[progV p rv gv] w (Ret (.bool (validB p)) w) := by
  obtain ⟨ra, rc, rfl, hrl, hrm, hrc⟩ := id hr
  obtain ⟨ga, gc, rfl, hgl, hgm, -⟩ := id hg
  have hm1 : (p.rows.length : Int) ≤ 9223372036854775807 := by omega
  have hm2 : (p.gain.length : Int) ≤ 9223372036854775807 := by omega
  obtain ⟨w0, hw0, hb0, c0, c1, c2⟩ := boxedProg w p.vars (.slice ra p.rows.length rc) (.slice ga p.gain.length gc)
  have HW := hide hw0
  rw [← hw0] at hb0 c0 c1 c2
  have hg0 := hg.below hb0
  have hr0 := hr.below hb0
  have HV := hide (validB_head p)
  have HH : Hid (headB p = (isInB 0 p.vars 12 && fewB p.rows.length && lenB p.gain.length p.vars && coefsB p.gain)) := hide rfl
  have HRC := hide hrc
  clear hw0 hrc
  by_cases h1 : p.vars < 0
  · have hx : Hid (isInB 0 p.vars 12 = false) := hide (by simp [isInB]; omega)
    go_enter Try.func21, Try.ntmps21
    go_wp2_with fail
    go_ret
    exact ⟨ret_bool (by rw [HV.out, HH.out]; rw [hx.out]; rfl), hb0⟩
  by_cases h2 : 12 < p.vars
  · have hx : Hid (isInB 0 p.vars 12 = false) := hide (by simp [isInB]; omega)
    go_enter Try.func21, Try.ntmps21
    go_wp2_with fail
    go_ret
    exact ⟨ret_bool (by rw [HV.out, HH.out]; rw [hx.out]; rfl), hb0⟩
  have hx1 : Hid (isInB 0 p.vars 12 = true) := hide (by simp [isInB]; omega)
  by_cases h3 : 300 < (p.rows.length : Int)
  · have hx : Hid (fewB p.rows.length = false) := hide (by simp [fewB]; omega)
    go_enter Try.func21, Try.ntmps21
    go_wp2_with fail
    go_ret
    exact ⟨ret_bool (by rw [HV.out, HH.out]; rw [hx1.out, hx.out]; rfl), hb0⟩
  have hx2 : Hid (fewB p.rows.length = true) := hide (by simp [fewB]; omega)
  by_cases h4 : (p.gain.length : Int) = p.vars
  case neg =>
    have hx : Hid (lenB p.gain.length p.vars = false) := hide (by simp [lenB, h4])
    have e1 : ((p.gain.length : Int) != p.vars) = true := by simpa using h4
    clear h4
    go_enter Try.func21, Try.ntmps21
    go_wp2_with fail
    go_ret
    exact ⟨ret_bool (by rw [HV.out, HH.out]; rw [hx1.out, hx2.out, hx.out]; rfl), hb0⟩
  have hx3 : Hid (lenB p.gain.length p.vars = true) := hide (by simp [lenB, h4])
  have e1 : ((p.gain.length : Int) != p.vars) = false := by simpa using h4
  clear h4
  cases h5 : coefsB p.gain
  · have h5' : p.gain.all bndB = false := h5
    go_enter Try.func21, Try.ntmps21
    go_wp2_with (go_at_call 51; refine (bounded_any p.gain _ _ hg0).mono ?_; rw [h5']; rintro e w1 ⟨rfl, hb1⟩)
    go_ret
    exact ⟨ret_bool (by rw [HV.out, HH.out]; rw [hx1.out, hx2.out, hx3.out, h5]; rfl), below2 hb0 hb1⟩
  · have h5' : p.gain.all bndB = true := h5
    have HH1 : Hid (headB p = true) := hide (by rw [HH.out, hx1.out, hx2.out, hx3.out, h5]; rfl)
    clear h5
    go_enter Try.func21, Try.ntmps21
    go_wp2_with (go_at_call 51; refine (bounded_any p.gain _ _ hg0).mono ?_; rw [h5']; rintro e w1 ⟨rfl, hb1⟩; have d0 := keep hb1 c0; have d1 := keep hb1 c1)
    go_loopw [3] (fun i wr => ∃ k : Nat, k ≤ p.rows.length ∧ i = .int .i64 k ∧ Hid ((p.rows.take k).all (rightB · p.vars) = true) ∧ Below w1.heap.size w1 wr) (fun i _ => p.rows.length - (intOf i).toNat)
    case atStart => exact ⟨0, by omega, rfl, rfl, Below.refl _ _⟩
    case round =>
      obtain ⟨k, hk, rfl, HA, hbr⟩ := hrel
      have k0 := keep hbr d0
      have k1 := keep hbr d1
      by_cases hlt : k < p.rows.length
      · obtain ⟨b, o, cv, rfl, hck⟩ := HRC.out k hlt
        have HT := hide (all_take_succ (d := row0) (p := (rightB · p.vars)) hlt HA.out)
        have HN := hide (rows_no (p := p) hlt)
        have hbx := below2 hb0 (below2 hb1 hbr)
        generalize p.rows.getD k row0 = x at hck HT HN
        obtain ⟨e0, e1', e2, e3, e4, e5, e6⟩ := hck.below hbx
        obtain ⟨ca, cc, rfl, -, -, -⟩ := id e6
        clear hck h5' c0 c1 c2 d0 d1
        have q0 := bwc e0
        have q1 := bwc e1'
        have q2 := bwc e2
        have q3 := bwc e3
        have q4 := bwc e4
        have q5 := bwc e5
        have l0 := bwc k0
        have l1 := bwc k1
        go_wp2_with fail
        have HCALL := hide (fun (i : Bw wr.heap.size wr) => rowr_any x (.slice ca x.coef.length cc) p.vars i.W (IntsIn.keeps (keeps_of_below i.h) e6))
        cases hx : rightB x p.vars
        all_goals
          rw [hx] at HCALL
          refine wp_region_bw (by kernel_rfl) (by kernel_rfl) ?_
          repeat (go_big_quiet_step ((go_at_call 52; exact quiet (HCALL.out _))))
          refine wpQuiet_nil ?_
          rintro _ ⟨i, rfl⟩
          go_wp2_with fail
        · go_ret
          exact ⟨ret_bool (by rw [HV.out, HH1.out, HN.out hx]; rfl), bwb i hbx hbx.size⟩
        · go_roundw
          case rel => exact ⟨k + 1, by omega, by go_num, HT.out hx, bwb i hbr hbr.size⟩
          case measure => simp [intOf]; omega
      · have hR : Hid (rowsB p.rows p.vars = true) := hide (all_take_end (by omega) HA.out)
        go_wp2_with fail
        go_ret
        exact ⟨ret_bool (by rw [HV.out, HH1.out, hR.out]; rfl), below2 hb0 (below2 hb1 hbr)⟩
end Go.Proofs.Ytcaklldmcbpbfaa
