/- Walks of pick, Ints and Undecided of the reference. Conditions: how the arguments lie in memory; that integers are of 64 bits; that the number of places is positive. -/
import Derived.Test.YtcaklldmcbpbfaaBase
import Derived.Test.YtcaklldmcbpbfaaPmodA
import Derived.Test.YtcaklldmcbpbfaaBlk
import Derived.Test.YtcaklldmcbpbfaaProw
namespace Go.Proofs.Ytcaklldmcbpbfaa
open Go.RowKit

def absF (c : Int) : Int := if c < 0 then -(c + 1) else c
def pickF (c n : Int) : Int := absF c % n
theorem absF_nonneg (c : Int) : 0 ≤ absF c := by unfold absF; split <;> omega
theorem pickF_nonneg (c : Int) {n : Int} (h : 0 < n) : 0 ≤ pickF c n := Int.emod_nonneg _ (by omega)
theorem pickF_lt (c : Int) {n : Int} (h : 0 < n) : pickF c n < n := Int.emod_lt_of_pos _ h
set_option maxHeartbeats 400000 in
theorem pickr_any (c n : Int) (w : World) (h1 : -9223372036854775808 ≤ c) (h2 : c ≤ 9223372036854775807) (hn : 0 < n) (hn2 : n ≤ 9223372036854775807) :
    Calls Try.prog 37 #[.int .i64 c, .int .i64 n] w (fun e w' => e = .returned (.int .i64 (pickF c n)) ∧ w' = w) := by
  have hne : n ≠ 0 := by omega
  have HF : Hid (pickF c n = absF c % n) := hide rfl
  have HP := hide (pickF_nonneg c hn)
  have HL := hide (pickF_lt c hn)
  by_cases hc : c < 0
  · have HA : Hid (absF c = -(c + 1)) := hide (by unfold absF; rw [if_pos hc])
    have HT : Hid ((-(c + 1)).tmod n = pickF c n) := hide (by rw [HF.out, HA.out]; exact Int.tmod_eq_emod_of_nonneg (by omega))
    go_enter Try.func37, Try.ntmps37
    go_wp2
    go_ret
    refine ⟨ret_int ?_, rfl⟩
    rw [← Int.neg_tmod]; exact HT.out
  · have HA : Hid (absF c = c) := hide (by unfold absF; rw [if_neg hc])
    have HT : Hid (c.tmod n = pickF c n) := hide (by rw [HF.out, HA.out]; exact Int.tmod_eq_emod_of_nonneg (by omega))
    go_enter Try.func37, Try.ntmps37
    go_wp2
    go_ret
    refine ⟨ret_int ?_, rfl⟩
    rw [HF.out, HA.out]
set_option maxHeartbeats 400000 in
theorem pickl_any (c n : Int) (w : World) (h1 : -9223372036854775808 ≤ c) (h2 : c ≤ 9223372036854775807) (hn : 0 < n) (hn2 : n ≤ 9223372036854775807) :
    Calls Try.prog 12 #[.int .i64 c, .int .i64 n] w (fun e w' => e = .returned (.int .i64 (pickF c n)) ∧ w' = w) := by
  have hne : n ≠ 0 := by omega
  have HF : Hid (pickF c n = absF c % n) := hide rfl
  have HP := hide (pickF_nonneg c hn)
  have HL := hide (pickF_lt c hn)
  by_cases hc : c < 0
  · have HA : Hid (absF c = -(c + 1)) := hide (by unfold absF; rw [if_pos hc])
    have HT : Hid ((-(c + 1)).tmod n = pickF c n) := hide (by rw [HF.out, HA.out]; exact Int.tmod_eq_emod_of_nonneg (by omega))
    go_enter Try.func12, Try.ntmps12
    go_wp2
    go_ret
    refine ⟨ret_int ?_, rfl⟩
    rw [← Int.neg_tmod]; exact HT.out
  · have HA : Hid (absF c = c) := hide (by unfold absF; rw [if_neg hc])
    have HT : Hid (c.tmod n = pickF c n) := hide (by rw [HF.out, HA.out]; exact Int.tmod_eq_emod_of_nonneg (by omega))
    go_enter Try.func12, Try.ntmps12
    go_wp2
    go_ret
    refine ⟨ret_int ?_, rfl⟩
    rw [HF.out, HA.out]
def intsB (a b : List Int) : Bool := decide (a = b)
theorem intsB_no {a b : List Int} {k : Nat} (h : a.getD k 0 ≠ b.getD k 0) : intsB a b = false := by
  unfold intsB; simp; rintro rfl; exact h rfl
theorem intsB_len {a b : List Int} (h : a.length ≠ b.length) : intsB a b = false := by
  unfold intsB; simp; rintro rfl; exact h rfl
theorem intsB_yes {a b : List Int} (hl : a.length = b.length) (h : ∀ k, k < a.length → a.getD k 0 = b.getD k 0) : intsB a b = true := by
  unfold intsB; simp
  refine List.ext_getElem hl fun i h1 h2 => ?_
  have := h i h1
  rwa [List.getD_eq_getElem?_getD, List.getD_eq_getElem?_getD, List.getElem?_eq_getElem h1, List.getElem?_eq_getElem h2] at this
set_option maxHeartbeats 400000 in
theorem ints_any (x y : List Int) (xv yv : Value) (w : World) (hx : IntsAt w xv x) (hy : IntsAt w yv y) :
    Calls Try.prog 19 #[xv, yv] w (Ret (.bool (intsB x y)) w) := by
  obtain ⟨xa, xc, rfl, hx1, hx2, hxc⟩ := hx
  obtain ⟨ya, yc, rfl, hy1, hy2, hyc⟩ := hy
  by_cases hl : x.length = y.length
  · have hl1 : (x.length : Int) = (y.length : Int) := by omega
    have HL := hide hl
    have HY := hide (intsB_yes hl)
    rw [← hl]
    clear hl hl1
    go_enter Try.func19, Try.ntmps19
    go_wp2
    go_loopw [5] (fun i wr => ∃ (k : Nat), k ≤ x.length ∧ i = .int .i64 k ∧ Hid (∀ j, j < k → x.getD j 0 = y.getD j 0) ∧ Below w.heap.size w wr) (fun i _ => x.length - (intOf i).toNat)
    case atStart => exact ⟨0, by omega, rfl, fun j hj => by omega, Below.refl _ _⟩
    case round =>
      obtain ⟨k, hk, rfl, HA, hbr⟩ := hrel
      by_cases hlt : k < x.length
      · obtain ⟨b, o, rfl, hck⟩ := hxc k hlt
        obtain ⟨b', o', rfl, hck'⟩ := hyc k (by have := HL.out; omega)
        have HN := hide (intsB_no (a := x) (b := y) (k := k))
        have HS : Hid (x.getD k 0 = y.getD k 0 → ∀ j, j < k + 1 → x.getD j 0 = y.getD j 0) := hide fun h j hj => by
          rcases Nat.lt_or_ge j k with h1 | h1
          · exact HA.out j h1
          · obtain rfl : j = k := by omega
            exact h
        generalize x.getD k 0 = s at hck HN HS
        generalize y.getD k 0 = t at hck' HN HS
        have c1 := bwc (keep hbr hck)
        have c2 := bwc (keep hbr hck')
        clear hxc hyc hck hck'
        go_wp2
        refine wp_region_bw (by kernel_rfl) (by kernel_rfl) ?_
        repeat (go_big_quiet_step (fail))
        refine wpQuiet_nil ?_
        rintro _ ⟨i, rfl⟩
        by_cases hst : s = t
        · have HST := hide hst
          subst hst
          go_wp2
          go_roundw
          case rel => exact ⟨k + 1, by omega, by go_num, HS.out rfl, bwb i hbr hbr.size⟩
          case measure => simp [intOf]; omega
        · have HST := hide (HN.out hst)
          go_wp2
          go_ret
          exact ⟨ret_bool HST.out.symm, bwb i hbr hbr.size⟩
      · obtain rfl : k = x.length := by omega
        go_wp2
        go_ret
        exact ⟨ret_bool (HY.out HA.out).symm, hbr⟩
  · have HN := hide (intsB_len hl)
    have hl1 : ¬ (x.length : Int) = (y.length : Int) := by omega
    go_enter Try.func19, Try.ntmps19
    go_wp2
    go_ret
    exact ⟨ret_bool HN.out.symm, Below.refl _ _⟩
set_option maxHeartbeats 1000000 in
/-- two programs that are equal -/
theorem same_true (p : ProgD) (rv gv sv hv : Value) (w : World) (hr : RowsAt w rv p.rows) (hg : IntsAt w gv p.gain) (hs : RowsAt w sv p.rows) (hh : IntsAt w hv p.gain) :
    Calls Try.prog 32 #[progV p rv gv, progV p sv hv] w (Ret (.bool true) w) := by
  obtain ⟨ra, rc, rfl, hrl, hrm, hrc⟩ := id hr
  obtain ⟨sa, sc, rfl, hsl, hsm, hsc⟩ := id hs
  obtain ⟨w0, hw0, hb0, c00, c01, c02⟩ := boxedProg w p.vars (.slice ra p.rows.length rc) gv
  obtain ⟨w1, hw1, hb1, c10, c11, c12⟩ := boxedProg w0 p.vars (.slice sa p.rows.length sc) hv
  have hz0 : w0.heap.size = w.heap.size + 1 := by rw [← hw0]; simp
  have d00 := keep hb1 c00
  have d01 := keep hb1 c01
  have d02 := keep hb1 c02
  rw [hz0] at c10 c11 c12
  have hb01 := below2 hb0 hb1
  have HW1 := hide hw1
  have HW0 := hide hw0
  have HZ := hide hz0
  have hm1 : (p.rows.length : Int) ≤ 9223372036854775807 := by omega
  clear hw0 hw1 hz0 c00 c01 c02 hb0 hb1
  have hI : intsB p.gain p.gain = true := by simp [intsB]
  go_enter Try.func32, Try.ntmps32
  go_wp2_with fail
  rw [HW0.out, HW1.out]
  refine (ints_any p.gain p.gain _ _ _ (hg.below hb01) (hh.below hb01)).mono ?_
  rw [hI]
  rintro e w2 ⟨rfl, hb2⟩
  have e01 := keep hb2 d01
  have e11 := keep hb2 c11
  have hbw2 := below2 hb01 hb2
  clear d00 d01 d02 c10 c11 c12 hI
  go_wp2_with fail
  go_loopw [5] (fun i wr => ∃ (k : Nat), k ≤ p.rows.length ∧ i = .int .i64 k ∧ Below w2.heap.size w2 wr) (fun i _ => p.rows.length - (intOf i).toNat)
  case atStart => exact ⟨0, by omega, rfl, Below.refl _ _⟩
  case round =>
    obtain ⟨k, hk, rfl, hbr⟩ := hrel
    have f01 := keep hbr e01
    have f11 := keep hbr e11
    by_cases hlt : k < p.rows.length
    · obtain ⟨b, o, cv, rfl, hck⟩ := hrc k hlt
      obtain ⟨b', o', cv', rfl, hck'⟩ := hsc k hlt
      generalize p.rows.getD k row0 = x at hck hck'
      have hbx := below2 hbw2 hbr
      obtain ⟨e0, e1, e2, e3, e4, e5, e6⟩ := hck.below hbx
      have hck2 := hck'.below (below2 hbx (bal wr (.cells (rowCells x cv).toArray 26)))
      obtain ⟨g0, g1, g2, g3, g4, g5, g6⟩ := hck2
      have g6' := hck'.below hbx
      obtain ⟨ca, cc, rfl, -, -, -⟩ := id e6
      obtain ⟨da, dc, rfl, -, -, -⟩ := id g6
      have hI : intsB x.coef x.coef = true := by simp [intsB]
      have HI := hide hI
      have hl11 : w.heap.size + 1 < wr.heap.size := lt_of_cell f11
      have hlb' : b' < wr.heap.size := lt_of_cell (hck'.below hbx).1
      have h11 := keep (bal wr (.cells (rowCells x (.slice ca x.coef.length cc)).toArray 26)) f11
      clear hrc hsc hck hck' hI
      go_wp2_with fail
      refine (ints_any x.coef x.coef _ _ _ ((e6.below (bal wr _)).below (bal _ _)) ((g6'.2.2.2.2.2.2.below (bal wr _)).below (bal _ _))).mono ?_
      rw [HI.out]
      rintro e w4 ⟨rfl, hb4⟩
      go_wp2_with fail
      go_roundw
      case rel => exact ⟨k + 1, by omega, by go_num, below2 hbr (below2 (below2 (bal wr _) (bal _ _)) hb4)⟩
      case measure => simp [intOf]; omega
    · obtain rfl : k = p.rows.length := by omega
      go_wp2
      go_ret
      exact ⟨rfl, below2 hbw2 hbr⟩
end Go.Proofs.Ytcaklldmcbpbfaa
