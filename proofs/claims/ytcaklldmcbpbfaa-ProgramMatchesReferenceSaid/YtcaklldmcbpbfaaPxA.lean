/- Walks of Sum, Gain, keeps, Broken, Keeps, All of the reference. Conditions: how the arguments lie in memory. -/
import Derived.Test.YtcaklldmcbpbfaaPr1
import Derived.Test.YtcaklldmcbpbfaaPmodL
import Derived.Test.YtcaklldmcbpbfaaBlkB
namespace Go.Proofs.Ytcaklldmcbpbfaa
open Go.RowKit

/-- the number of choices -/
theorem pow_U {n : Nat} (h : n ≤ 13) : ∃ T : Nat, T = 2 ^ n ∧ 1 ≤ T ∧ T ≤ 8192 ∧ wrap64 (2 ^ n) = (T : Int) ∧ IntKind.i64.wrap (2 ^ n) = (T : Int) ∧ (2 : Int) ^ n = (T : Int) := by
  have h1 : 2 ^ n ≤ 2 ^ 13 := Nat.pow_le_pow_right (by omega) h
  have h2 : 1 ≤ 2 ^ n := Nat.one_le_two_pow
  have h3 : (2 : Int) ^ n = ((2 ^ n : Nat) : Int) := by simp
  refine ⟨2 ^ n, rfl, h2, by omega, ?_, ?_, h3⟩
  · rw [h3, wrap_id (by omega) (by omega)]
  · rw [h3, IntKind.wrap_i64]; omega
theorem isIn_pow {s : Int} {n T : Nat} (h : (2 : Int) ^ n = (T : Int)) : isInB 0 s (2 ^ n - 1) = (decide (0 ≤ s) && decide (s < T)) := by
  rw [h]; unfold isInB
  rw [Bool.eq_iff_iff]; simp; omega
set_option maxHeartbeats 1000000 in
theorem sumr_any (r : RowD) (cv : Value) (s : Int) (w : World) (hv : IntsAt w cv r.coef) :
    Calls Try.prog 29 #[rowV r cv, .int .i64 s] w (Ret (.int .i64 (sumF r s)) w) := by
  obtain ⟨a, c, rfl, hlc, hcm, -⟩ := id hv
  have hm1 : (r.coef.length : Int) ≤ 9223372036854775807 := by omega
  obtain ⟨w0, hw0, hb0, c0, c1, c2, c3, c4, c5⟩ := boxedRow w r (.slice a r.coef.length c)
  rw [← hw0] at hb0 c0 c1 c2 c3 c4 c5
  have hv0 := hv.below hb0
  clear hw0
  have HF : Hid (sumF r s = if decide (r.coef.length ≤ 12) && rightB r r.coef.length && isInB 0 s (2 ^ r.coef.length - 1) then chosenF r.coef s.toNat else 0) := hide rfl
  by_cases h12 : r.coef.length ≤ 12
  · have hn : ¬ (12 : Int) < (r.coef.length : Int) := by omega
    have hd : Hid (decide (r.coef.length ≤ 12) = true) := hide (by simpa using h12)
    obtain ⟨T, -, -, hT2, hTc, hTi, hTp⟩ := pow_U (n := r.coef.length) (by omega)
    have HI := hide (isIn_pow (s := s) hTp)
    clear hTp
    cases hR : rightB r r.coef.length
    · go_enter Try.func29, Try.ntmps29
      go_wp2_with (go_at_call 52; refine (rowr_any r _ _ _ hv0).mono ?_; rw [hR]; rintro e w1 ⟨rfl, hb1⟩)
      go_ret
      exact ⟨ret_int (by rw [HF.out, hR, Bool.and_false, Bool.false_and]; rfl), below2 hb0 hb1⟩
    · have hc : coefsB r.coef = true := by simp only [rightB, Bool.and_eq_true] at hR; exact hR.1.2
      by_cases h0 : s < 0
      · have hx : Hid (isInB 0 s (2 ^ r.coef.length - 1) = false) := hide (by rw [HI.out]; simp; omega)
        go_enter Try.func29, Try.ntmps29
        go_wp2_with (go_at_call 52; refine (rowr_any r _ _ _ hv0).mono ?_; rw [hR]; rintro e w1 ⟨rfl, hb1⟩; have d4 := keep hb1 c4)
        go_ret
        exact ⟨ret_int (by rw [HF.out, hx.out, Bool.and_false]; rfl), below2 hb0 hb1⟩
      · by_cases hs : (T : Int) ≤ s
        · have hx : Hid (isInB 0 s (2 ^ r.coef.length - 1) = false) := hide (by rw [HI.out]; simp; omega)
          go_enter Try.func29, Try.ntmps29
          go_wp2_with (go_at_call 52; refine (rowr_any r _ _ _ hv0).mono ?_; rw [hR]; rintro e w1 ⟨rfl, hb1⟩; have d4 := keep hb1 c4)
          go_ret
          exact ⟨ret_int (by rw [HF.out, hx.out, Bool.and_false]; rfl), below2 hb0 hb1⟩
        · have hx : Hid (isInB 0 s (2 ^ r.coef.length - 1) = true) := hide (by rw [HI.out]; simp; omega)
          obtain ⟨n, rfl⟩ : ∃ n : Nat, s = n := ⟨s.toNat, by omega⟩
          go_enter Try.func29, Try.ntmps29
          go_wp2_with (go_at_call 52; refine (rowr_any r _ _ _ hv0).mono ?_; rw [hR]; rintro e w1 ⟨rfl, hb1⟩; have d4 := keep hb1 c4)
          go_wp2_with (go_at_call 42; refine (total_any r.coef n _ _ (hv0.below hb1) (by omega) hc).mono ?_; rintro e w2 ⟨rfl, hb2⟩)
          go_ret
          exact ⟨ret_int (by rw [HF.out, hd.out, hR, hx.out]; rfl), below2 hb0 (below2 hb1 hb2)⟩
  · have hn : (12 : Int) < (r.coef.length : Int) := by omega
    have hd : Hid (decide (r.coef.length ≤ 12) = false) := hide (by simpa using h12)
    go_enter Try.func29, Try.ntmps29
    go_wp2_with fail
    go_ret
    exact ⟨ret_int (by rw [HF.out, hd.out, Bool.false_and, Bool.false_and]; rfl), hb0⟩
/-- what a choice of a valid program is -/
theorem choice_eq {p : ProgD} {s : Int} {T : Nat} (h : (2 : Int) ^ p.vars.toNat = (T : Int)) : choiceB p s = (validB p && (decide (0 ≤ s) && decide (s < T))) := by
  unfold choiceB; rw [isIn_pow h]
set_option maxHeartbeats 1000000 in
theorem gainr_any (p : ProgD) (rv gv : Value) (s : Int) (w : World) (hr : RowsAt w rv p.rows) (hg : IntsAt w gv p.gain) :
    Calls Try.prog 25 #[progV p rv gv, .int .i64 s] w (Ret (.int .i64 (gainF p s)) w) := by
  obtain ⟨w0, hw0, hb0, c0, c1, c2⟩ := boxedProg w p.vars rv gv
  rw [← hw0] at hb0 c0 c1 c2
  have HF : Hid (gainF p s = if choiceB p s then chosenF p.gain s.toNat else 0) := hide rfl
  have hr0 := hr.below hb0
  have hg0 := hg.below hb0
  clear hw0
  cases hV : validB p
  · have hx : Hid (choiceB p s = false) := hide (by unfold choiceB; rw [hV]; rfl)
    go_enter Try.func25, Try.ntmps25
    go_wp2_with (go_at_call 21; refine (validr_any p _ _ _ hr0 hg0).mono ?_; rw [hV]; rintro e w1 ⟨rfl, hb1⟩)
    go_ret
    exact ⟨ret_int (by rw [HF.out, hx.out]; rfl), below2 hb0 hb1⟩
  · obtain ⟨v0, v12, -, -, hgl, hgc⟩ := valid_parts hV
    obtain ⟨T, -, -, hT2, hTc, hTi, hTp⟩ := pow_U (n := p.vars.toNat) (by omega)
    have HI : Hid (choiceB p s = (decide (0 ≤ s) && decide (s < T))) := hide (by rw [choice_eq hTp, hV]; rfl)
    have HL : Hid (p.gain.length ≤ 13) := by show _ ≤ _; omega
    clear hTp hgl
    by_cases h0 : s < 0
    · have hx : Hid (choiceB p s = false) := hide (by rw [HI.out]; simp; omega)
      go_enter Try.func25, Try.ntmps25
      go_wp2_with (go_at_call 21; refine (validr_any p _ _ _ hr0 hg0).mono ?_; rw [hV]; rintro e w1 ⟨rfl, hb1⟩; have d0 := keep hb1 c0)
      go_ret
      exact ⟨ret_int (by rw [HF.out, hx.out]; rfl), below2 hb0 hb1⟩
    · by_cases hs : (T : Int) ≤ s
      · have hx : Hid (choiceB p s = false) := hide (by rw [HI.out]; simp; omega)
        go_enter Try.func25, Try.ntmps25
        go_wp2_with (go_at_call 21; refine (validr_any p _ _ _ hr0 hg0).mono ?_; rw [hV]; rintro e w1 ⟨rfl, hb1⟩; have d0 := keep hb1 c0)
        go_ret
        exact ⟨ret_int (by rw [HF.out, hx.out]; rfl), below2 hb0 hb1⟩
      · have hx : Hid (choiceB p s = true) := hide (by rw [HI.out]; simp; omega)
        obtain ⟨n, rfl⟩ : ∃ n : Nat, s = n := ⟨s.toNat, by omega⟩
        go_enter Try.func25, Try.ntmps25
        go_wp2_with (go_at_call 21; refine (validr_any p _ _ _ hr0 hg0).mono ?_; rw [hV]; rintro e w1 ⟨rfl, hb1⟩; have d0 := keep hb1 c0; have d2 := keep hb1 c2)
        go_wp2_with (go_at_call 42; refine (total_any p.gain n _ _ (hg0.below hb1) HL.out hgc).mono ?_; rintro e w2 ⟨rfl, hb2⟩)
        go_ret
        exact ⟨ret_int (by rw [HF.out, hx.out]; rfl), below2 hb0 (below2 hb1 hb2)⟩
set_option maxHeartbeats 1000000 in
theorem keepsl_any (p : ProgD) (rv gv : Value) (s : Nat) (w : World) (hr : RowsAt w rv p.rows) (hrs : ∀ r ∈ p.rows, r.coef.length ≤ 13 ∧ coefsB r.coef = true) :
    Calls Try.prog 45 #[progV p rv gv, .int .i64 s] w (Ret (.bool (keptAll p.rows s)) w) := by
  obtain ⟨ra, rc, rfl, hrl, hrm, hrc⟩ := id hr
  have hm1 : (p.rows.length : Int) ≤ 9223372036854775807 := by omega
  have HK : Hid (keptAll p.rows s = p.rows.all (keptB · s)) := hide rfl
  have HR := hide hrs
  have HRC := hide hrc
  clear hrc hrs
  go_enter Try.func45, Try.ntmps45
  go_wp2_with fail
  generalize hW : World.alloc w _ = W0
  have hb0 : Below w.heap.size w W0 := by rw [← hW]; exact bal w _
  have hP : Blk W0 w.heap.size [.int .i64 p.vars, .slice ra p.rows.length rc, gv] 29 := by rw [← hW]; exact Blk.new w _ _
  clear hW
  go_loopw [5] (fun i wr => ∃ k : Nat, k ≤ p.rows.length ∧ i = .int .i64 k ∧ Hid ((p.rows.take k).all (keptB · s) = true) ∧ Below W0.heap.size W0 wr) (fun i _ => p.rows.length - (intOf i).toNat)
  case atStart => exact ⟨0, by omega, rfl, hide rfl, Below.refl _ _⟩
  case round =>
    obtain ⟨k, hk, rfl, HA, hbr⟩ := hrel
    have hbx := below2 hb0 hbr
    have pc := (hP.later hbr).cell 1 rfl
    by_cases hlt : k < p.rows.length
    · obtain ⟨b, o, cv, rfl, hck⟩ := HRC.out k hlt
      have hm := getD_mem p.rows k (d := row0) hlt
      have hq := HR.out _ hm
      have HT := hide (all_take_succ (d := row0) (p := (keptB · s)) hlt HA.out)
      have HN := hide (fun h => all_no (d := row0) (p := (keptB · s)) hlt h)
      generalize p.rows.getD k row0 = x at hck hm HT HN hq
      obtain ⟨e0, e1, e2, e3, e4, e5, e6⟩ := hck.below hbx
      obtain ⟨ca, cc, rfl, -, -, -⟩ := id e6
      clear hck
      have l1 := bwc pc
      have q4 := bwc e4
      have q5 := bwc e5
      have HCALL := hide (fun (i : Bw wr.heap.size wr) => total_any x.coef s _ i.W (IntsIn.keeps (keeps_of_below i.h) e6) hq.1 hq.2)
      have hkl : decide (k < p.rows.length) = true := by simpa using hlt
      by_cases hgt : x.most < chosenF x.coef s
      · have hx : keptB x s = false := by unfold keptB; exact decide_eq_false (by omega)
        have HX := hide hx
        clear hx
        go_wp2_with fail
        refine wp_region_bw (by kernel_rfl) (by kernel_rfl) ?_
        repeat (go_big_quiet_step ((go_at_call 42; exact quiet (HCALL.out _))))
        refine wpQuiet_nil ?_
        rintro _ ⟨i, rfl⟩
        go_wp2_with fail
        go_ret
        exact ⟨ret_bool (by rw [HK.out, HN.out HX.out]), bwb i hbx hbx.size⟩
      · have hx : keptB x s = true := by unfold keptB; exact decide_eq_true (by omega)
        have HX := hide hx
        clear hx
        go_wp2_with fail
        refine wp_region_bw (by kernel_rfl) (by kernel_rfl) ?_
        repeat (go_big_quiet_step ((go_at_call 42; exact quiet (HCALL.out _))))
        refine wpQuiet_nil ?_
        rintro _ ⟨i, rfl⟩
        go_wp2_with fail
        go_roundw
        case rel => exact ⟨k + 1, by omega, by go_num, HT.out HX.out, bwb i hbr hbr.size⟩
        case measure => simp [intOf]; omega
    · have hR : Hid (p.rows.all (keptB · s) = true) := hide (all_take_end (by omega) HA.out)
      go_wp2_with fail
      go_ret
      exact ⟨ret_bool (by rw [HK.out, hR.out]), hbx⟩
set_option maxHeartbeats 2000000 in
theorem brokenr_any (p : ProgD) (rv gv : Value) (s : Int) (w : World) (hr : RowsAt w rv p.rows) (hg : IntsAt w gv p.gain) :
    Calls Try.prog 27 #[progV p rv gv, .int .i64 s] w (RetM (fun c v => IntsIn c v (brokenF p s)) w) := by
  obtain ⟨ra, rc, rfl, hrl, hrm, hrc⟩ := id hr
  have hm1 : (p.rows.length : Int) ≤ 9223372036854775807 := by omega
  obtain ⟨w0, hw0, hb0, c0, c1, c2⟩ := boxedProg w p.vars (.slice ra p.rows.length rc) gv
  have hz0 : w.heap.size < w0.heap.size := by rw [← hw0]; simp
  rw [← hw0] at hb0 c0 c1 c2
  have HF : Hid (brokenF p s = if choiceB p s then brokenUp p.rows s.toNat p.rows.length else []) := hide rfl
  have HRC := hide hrc
  clear hrc
  have hr0 := hr.below hb0
  have hg0 := hg.below hb0
  clear hw0
  cases hV : validB p
  · have hx : Hid (choiceB p s = false) := hide (by unfold choiceB; rw [hV]; rfl)
    go_enter Try.func27, Try.ntmps27
    go_wp2_with (go_at_call 21; refine (validr_any p _ _ _ hr0 hg0).mono ?_; rw [hV]; rintro e w1 ⟨rfl, hb1⟩)
    go_ret
    exact ⟨_, rfl, by rw [HF.out, hx.out]; exact IntsIn.nil _, below2 hb0 hb1⟩
  · obtain ⟨v0, v12, hfew, hrs, -, -⟩ := valid_parts hV
    obtain ⟨T, -, -, hT2, hTc, hTi, hTp⟩ := pow_U (n := p.vars.toNat) (by omega)
    have HI : Hid (choiceB p s = (decide (0 ≤ s) && decide (s < T))) := hide (by rw [choice_eq hTp, hV]; rfl)
    have HR : Hid (∀ r ∈ p.rows, r.coef.length ≤ 13 ∧ coefsB r.coef = true) := hide fun r h => ⟨by have := hrs r h; omega, (hrs r h).2.1⟩
    clear hTp hrs
    by_cases h0 : s < 0
    · have hx : Hid (choiceB p s = false) := hide (by rw [HI.out]; simp; omega)
      go_enter Try.func27, Try.ntmps27
      go_wp2_with (go_at_call 21; refine (validr_any p _ _ _ hr0 hg0).mono ?_; rw [hV]; rintro e w1 ⟨rfl, hb1⟩; have d0 := keep hb1 c0)
      go_ret
      exact ⟨_, rfl, by rw [HF.out, hx.out]; exact IntsIn.nil _, below2 hb0 hb1⟩
    · by_cases hs : (T : Int) ≤ s
      · have hx : Hid (choiceB p s = false) := hide (by rw [HI.out]; simp; omega)
        go_enter Try.func27, Try.ntmps27
        go_wp2_with (go_at_call 21; refine (validr_any p _ _ _ hr0 hg0).mono ?_; rw [hV]; rintro e w1 ⟨rfl, hb1⟩; have d0 := keep hb1 c0)
        go_ret
        exact ⟨_, rfl, by rw [HF.out, hx.out]; exact IntsIn.nil _, below2 hb0 hb1⟩
      · have hx : Hid (choiceB p s = true) := hide (by rw [HI.out]; simp; omega)
        obtain ⟨n, rfl⟩ : ∃ n : Nat, s = n := ⟨s.toNat, by omega⟩
        have hgd : decide ((n : Int) < 0) = false := decide_eq_false h0
        have hsd : decide (T ≤ n) = false := decide_eq_false (by omega)
        go_enter Try.func27, Try.ntmps27
        go_wp2_with (go_at_call 21; refine (validr_any p _ _ _ hr0 hg0).mono ?_; rw [hV]; rintro e w1 ⟨rfl, hb1⟩; have d0 := keep hb1 c0; have d1 := keep hb1 c1)
        go_loopw [5, 6] (fun v i wr => ∃ (k : Nat), k ≤ p.rows.length ∧ i = .int .i64 k ∧ OwnI wr w1.heap.size v (brokenUp p.rows n k) ∧ Below w1.heap.size w1 wr) (fun _ i _ => p.rows.length - (intOf i).toNat)
        case atStart => exact ⟨0, by omega, rfl, OwnI.nil _ _, Below.refl _ _⟩
        case round =>
          obtain ⟨k, hk, rfl, hown, hbr⟩ := hrel
          have hbx := below2 hb0 (below2 hb1 hbr)
          have pc := keep hbr d1
          by_cases hlt : k < p.rows.length
          · obtain ⟨b, o, cv, rfl, hck⟩ := HRC.out k hlt
            have hm := getD_mem p.rows k (d := row0) hlt
            have hq := HR.out _ hm
            have HY := hide (brokenUp_yes (l := p.rows) (s := n) (k := k))
            have HN := hide (brokenUp_no (l := p.rows) (s := n) (k := k))
            have hle := brokenUp_le p.rows n k
            generalize p.rows.getD k row0 = x at hck hm HY HN hq
            obtain ⟨e0, e1, e2, e3, e4, e5, e6⟩ := hck.below hbx
            obtain ⟨ca, cc, rfl, -, -, -⟩ := id e6
            clear hck
            have l1 := bwc pc
            have q4 := bwc e4
            have q5 := bwc e5
            have HCALL := hide (fun (i : Bw wr.heap.size wr) => total_any x.coef n _ i.W (IntsIn.keeps (keeps_of_below i.h) e6) hq.1 hq.2)
            have hkl : decide (k < p.rows.length) = true := by simpa using hlt
            by_cases hgt : x.most < chosenF x.coef n
            · have hx' : keptB x n = false := by unfold keptB; exact decide_eq_false (by omega)
              have HX := hide hx'
              clear hx'
              go_wp2_with fail
              refine wp_region_bw (by kernel_rfl) (by kernel_rfl) ?_
              repeat (go_big_quiet_step ((go_at_call 42; exact quiet (HCALL.out _))))
              refine wpQuiet_nil ?_
              rintro _ ⟨i, rfl⟩
              have hown2 := hown.later i.h
              have hbi := bwb i hbr hbr.size
              generalize i.W = WI at *
              go_wp2_with (at_builtin; refine app_int rfl _ _ rfl w1.heap.size _ _ rfl hown2 k rfl (by omega) hbi.size ?_; intro v' w3 hown3 hb3 hz3)
              go_roundw
              case rel => exact ⟨k + 1, by omega, by go_num, by rw [HN.out HX.out]; exact hown3, hbi.trans hb3⟩
              case measure => simp [intOf]; omega
            · have hx' : keptB x n = true := by unfold keptB; exact decide_eq_true (by omega)
              have HX := hide hx'
              clear hx'
              go_wp2_with fail
              refine wp_region_bw (by kernel_rfl) (by kernel_rfl) ?_
              repeat (go_big_quiet_step ((go_at_call 42; exact quiet (HCALL.out _))))
              refine wpQuiet_nil ?_
              rintro _ ⟨i, rfl⟩
              go_wp2_with fail
              go_roundw
              case rel => exact ⟨k + 1, by omega, by go_num, by rw [HY.out HX.out]; exact hown.later i.h, bwb i hbr hbr.size⟩
              case measure => simp [intOf]; omega
          · obtain rfl : k = p.rows.length := by omega
            go_wp2_with fail
            go_ret
            exact ⟨_, rfl, by rw [HF.out, hx.out]; exact hown.intsF (below2 hb0 hb1).size, below2 hb0 (below2 hb1 hbr)⟩
set_option maxHeartbeats 1000000 in
theorem keepsr_any (p : ProgD) (rv gv : Value) (s : Int) (w : World) (hr : RowsAt w rv p.rows) (hg : IntsAt w gv p.gain) :
    Calls Try.prog 23 #[progV p rv gv, .int .i64 s] w (Ret (.bool (keepsB p s)) w) := by
  obtain ⟨w0, hw0, hb0, c0, c1, c2⟩ := boxedProg w p.vars rv gv
  rw [← hw0] at hb0 c0 c1 c2
  have HF := hide (keeps_broken p s)
  have HBR := hide (fun (W : World) (h : Below w.heap.size w W) => brokenr_any p rv gv s W (hr.below h) (hg.below h))
  have hr0 := hr.below hb0
  have hg0 := hg.below hb0
  clear hw0
  cases hV : validB p
  · have hx : Hid (keepsB p s = false) := hide (by rw [HF.out]; unfold choiceB; rw [hV]; rfl)
    go_enter Try.func23, Try.ntmps23
    go_wp2_with (go_at_call 21; refine (validr_any p _ _ _ hr0 hg0).mono ?_; rw [hV]; rintro e w1 ⟨rfl, hb1⟩)
    go_ret
    exact ⟨ret_bool hx.out.symm, below2 hb0 hb1⟩
  · obtain ⟨v0, v12, -, -, -, -⟩ := valid_parts hV
    obtain ⟨T, -, -, hT2, hTc, hTi, hTp⟩ := pow_U (n := p.vars.toNat) (by omega)
    have HI : Hid (choiceB p s = (decide (0 ≤ s) && decide (s < T))) := hide (by rw [choice_eq hTp, hV]; rfl)
    clear hTp
    by_cases h0 : 0 ≤ s
    · by_cases hs : s < (T : Int)
      · have hx : Hid (keepsB p s = decide ((brokenF p s).length = 0)) := hide (by
          rw [HF.out, HI.out, decide_eq_true h0, decide_eq_true hs]; simp)
        generalize brokenF p s = BF at HBR hx
        have hgd : decide (0 ≤ s) = true := decide_eq_true h0
        have hsd : decide (s < (T : Int)) = true := decide_eq_true hs
        go_enter Try.func23, Try.ntmps23
        go_wp2_with (go_at_call 21; refine (validr_any p _ _ _ hr0 hg0).mono ?_; rw [hV]; rintro e w1 ⟨rfl, hb1⟩; have d0 := keep hb1 c0; have d1 := keep hb1 c1; have d2 := keep hb1 c2)
        refine (HBR.out _ (below2 hb0 hb1)).mono ?_
        rintro e w2 ⟨bv, rfl, hbv, hb2⟩
        obtain ⟨ba, bc, rfl, -, -, -⟩ := hbv
        cases hl : BF.length
        · go_wp2_with fail
          go_ret
          exact ⟨ret_bool (by rw [hx.out, hl]; rfl), below2 hb0 (below2 hb1 hb2)⟩
        · go_wp2_with fail
          go_ret
          exact ⟨ret_bool (by rw [hx.out, hl]; simp; try omega), below2 hb0 (below2 hb1 hb2)⟩
      · have hx : Hid (keepsB p s = false) := hide (by rw [HF.out, HI.out, decide_eq_false hs]; simp)
        have hgd : decide (0 ≤ s) = true := decide_eq_true h0
        have hsd : decide (s < (T : Int)) = false := decide_eq_false hs
        go_enter Try.func23, Try.ntmps23
        go_wp2_with (go_at_call 21; refine (validr_any p _ _ _ hr0 hg0).mono ?_; rw [hV]; rintro e w1 ⟨rfl, hb1⟩; have d0 := keep hb1 c0)
        go_ret
        exact ⟨ret_bool hx.out.symm, below2 hb0 hb1⟩
    · have hx : Hid (keepsB p s = false) := hide (by rw [HF.out, HI.out, decide_eq_false h0]; simp)
      have hgd : decide (0 ≤ s) = false := decide_eq_false h0
      go_enter Try.func23, Try.ntmps23
      go_wp2_with (go_at_call 21; refine (validr_any p _ _ _ hr0 hg0).mono ?_; rw [hV]; rintro e w1 ⟨rfl, hb1⟩; have d0 := keep hb1 c0)
      go_ret
      exact ⟨ret_bool hx.out.symm, below2 hb0 hb1⟩
set_option maxHeartbeats 1000000 in
theorem allr_any (p : ProgD) (rv gv : Value) (w : World) (hr : RowsAt w rv p.rows) (hg : IntsAt w gv p.gain) :
    Calls Try.prog 17 #[progV p rv gv] w (RetM2 (fun c v u => IntsIn c v (allF p) ∧ u = .int .i64 (errF p)) w) := by
  obtain ⟨w0, hw0, hb0, c0, c1, c2⟩ := boxedProg w p.vars rv gv
  have hz0 : w.heap.size < w0.heap.size := by rw [← hw0]; simp
  rw [← hw0] at hb0 c0 c1 c2
  have HA : Hid (allF p = if validB p then (goodF p).map fun (s : Nat) => (s : Int) else []) := hide rfl
  have HE : Hid (errF p = if validB p then 0 else 330) := hide rfl
  have HG : Hid (goodF p = goodUp p.rows (2 ^ p.vars.toNat)) := hide rfl
  have hr0 := hr.below hb0
  have hg0 := hg.below hb0
  clear hw0
  cases hV : validB p
  · go_enter Try.func17, Try.ntmps17
    go_wp2_with (go_at_call 21; refine (validr_any p _ _ _ hr0 hg0).mono ?_; rw [hV]; rintro e w1 ⟨rfl, hb1⟩)
    go_ret2
    exact ⟨_, _, rfl, ⟨by rw [HA.out, hV]; exact IntsIn.nil _, by rw [HE.out, hV]; rfl⟩, below2 hb0 hb1⟩
  · obtain ⟨v0, v12, -, hrs, -, -⟩ := valid_parts hV
    obtain ⟨T, hT, -, hT2, hTc, hTi, -⟩ := pow_U (n := p.vars.toNat) (by omega)
    have HT := hide hT
    have HR : Hid (∀ r ∈ p.rows, r.coef.length ≤ 13 ∧ coefsB r.coef = true) := hide fun r h => ⟨by have := hrs r h; omega, (hrs r h).2.1⟩
    have HKP := hide (fun (s : Nat) (W : World) (h : Below w.heap.size w W) => keepsl_any p rv gv s W (hr.below h) HR.out)
    clear hrs hT
    go_enter Try.func17, Try.ntmps17
    go_wp2_with (go_at_call 21; refine (validr_any p _ _ _ hr0 hg0).mono ?_; rw [hV]; rintro e w1 ⟨rfl, hb1⟩; have d0 := keep hb1 c0; have d1 := keep hb1 c1; have d2 := keep hb1 c2)
    go_loopw [4, 5] (fun v i wr => ∃ (k : Nat), k ≤ T ∧ i = .int .i64 k ∧ OwnI wr w1.heap.size v ((goodUp p.rows k).map fun (s : Nat) => (s : Int)) ∧ Below w1.heap.size w1 wr) (fun _ i _ => T - (intOf i).toNat)
    case atStart => exact ⟨0, by omega, rfl, OwnI.nil _ _, Below.refl _ _⟩
    case round =>
      obtain ⟨k, hk, rfl, hown, hbr⟩ := hrel
      have hbx := below2 hb0 (below2 hb1 hbr)
      have p0 := keep hbr d0
      have p1 := keep hbr d1
      have p2 := keep hbr d2
      by_cases hlt : k < T
      · have hle := goodUp_le p.rows k
        have hkd : decide ((k : Int) < (T : Int)) = true := by simp; omega
        have HCALL := hide (HKP.out k)
        cases hx : keptAll p.rows k
        · have e1 := goodUp_no hx
          have HE1 := hide e1
          rw [hx] at HCALL
          clear e1
          go_wp2_with (go_at_call 45; refine (HCALL.out _ hbx).mono ?_; rintro e w2 ⟨rfl, hb2⟩)
          go_roundw
          case rel => exact ⟨k + 1, by omega, by go_num, by rw [HE1.out]; exact hown.later hb2, below2 hbr hb2⟩
          case measure => simp [intOf]; omega
        · have e1 := goodUp_yes hx
          have HE1 := hide e1
          rw [hx] at HCALL
          clear e1
          go_wp2_with (first | (go_at_call 45; refine (HCALL.out _ hbx).mono ?_; rintro e w2 ⟨rfl, hb2⟩; have hown2 := hown.later hb2; have hb12 := below2 hbr hb2) | (at_builtin; refine app_int rfl _ _ rfl w1.heap.size _ _ rfl hown2 k rfl (by simp; omega) hb12.size ?_; intro v' w3 hown3 hb3 hz3))
          go_roundw
          case rel => exact ⟨k + 1, by omega, by go_num, by rw [HE1.out, List.map_append]; exact hown3, hb12.trans hb3⟩
          case measure => simp [intOf]; omega
      · obtain rfl : k = T := by omega
        have hkd : decide ((k : Int) < (k : Int)) = false := by simp
        go_wp2_with fail
        go_ret2
        exact ⟨_, _, rfl, ⟨by rw [HA.out, hV, HG.out, ← HT.out]; exact hown.intsF (below2 hb0 hb1).size, by rw [HE.out, hV]; rfl⟩, hbx⟩
end Go.Proofs.Ytcaklldmcbpbfaa
