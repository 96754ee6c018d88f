/- Walks of pick, Ints and Undecided of the reference. Conditions: how the arguments lie in memory; that integers are of 64 bits; that the number of places is positive. -/
import Derived.Test.YtppfdjjhloaopaaBase
import Derived.Test.YtppfdjjhloaopaaPmodA
import Derived.Test.YtppfdjjhloaopaaBlk
import Derived.Test.YtppfdjjhloaopaaProw
namespace Go.Proofs.Ytppfdjjhloaopaa
open Go.RowKit

def absF (c : Int) : Int := if c < 0 then -(c + 1) else c
def pickF (c n : Int) : Int := absF c % n
theorem absF_nonneg (c : Int) : 0 ≤ absF c := by unfold absF; split <;> omega
theorem pickF_nonneg (c : Int) {n : Int} (h : 0 < n) : 0 ≤ pickF c n := Int.emod_nonneg _ (by omega)
theorem pickF_lt (c : Int) {n : Int} (h : 0 < n) : pickF c n < n := Int.emod_lt_of_pos _ h
set_option maxHeartbeats 400000 in
theorem pickr_any (c n : Int) (w : World) (h1 : -9223372036854775808 ≤ c) (h2 : c ≤ 9223372036854775807) (hn : 0 < n) (hn2 : n ≤ 9223372036854775807) :
    Calls Try.prog 32 #[.int .i64 c, .int .i64 n] w (fun e w' => e = .returned (.int .i64 (pickF c n)) ∧ w' = w) := by
  have hne : n ≠ 0 := by omega
  have HF : Hid (pickF c n = absF c % n) := hide rfl
  have HP := hide (pickF_nonneg c hn)
  have HL := hide (pickF_lt c hn)
  by_cases hc : c < 0
  · have HA : Hid (absF c = -(c + 1)) := hide (by unfold absF; rw [if_pos hc])
    have HT : Hid ((-(c + 1)).tmod n = pickF c n) := hide (by rw [HF.out, HA.out]; exact Int.tmod_eq_emod_of_nonneg (by omega))
    go_enter Try.func32, Try.ntmps32
    go_wp2
    go_ret
    refine ⟨ret_int ?_, rfl⟩
    rw [← Int.neg_tmod]; exact HT.out
  · have HA : Hid (absF c = c) := hide (by unfold absF; rw [if_neg hc])
    have HT : Hid (c.tmod n = pickF c n) := hide (by rw [HF.out, HA.out]; exact Int.tmod_eq_emod_of_nonneg (by omega))
    go_enter Try.func32, Try.ntmps32
    go_wp2
    go_ret
    refine ⟨ret_int ?_, rfl⟩
    rw [HF.out, HA.out]
def intsB (a b : List Int) : Bool := decide (a = b)
theorem intsB_no {a b : List Int} {k : Nat} (h : a.getD k 0 ≠ b.getD k 0) : intsB a b = false := by
  unfold intsB; simp; rintro rfl; exact h rfl
theorem intsB_len {a b : List Int} (h : a.length ≠ b.length) : intsB a b = false := by
  unfold intsB; simp; rintro rfl; exact h rfl
theorem intsB_yes {a b : List Int} (hl : a.length = b.length) (h : ∀ k, k < a.length → a.getD k 0 = b.getD k 0) : intsB a b = true := by
  unfold intsB; simp
  refine List.ext_getElem hl fun i h1 h2 => ?_
  have := h i h1
  rwa [List.getD_eq_getElem?_getD, List.getD_eq_getElem?_getD, List.getElem?_eq_getElem h1, List.getElem?_eq_getElem h2] at this
set_option maxHeartbeats 400000 in
theorem ints_any (x y : List Int) (xv yv : Value) (w : World) (hx : IntsAt w xv x) (hy : IntsAt w yv y) :
    Calls Try.prog 21 #[xv, yv] w (Ret (.bool (intsB x y)) w) := by
  obtain ⟨xa, xc, rfl, hx1, hx2, hxc⟩ := hx
  obtain ⟨ya, yc, rfl, hy1, hy2, hyc⟩ := hy
  by_cases hl : x.length = y.length
  · have hl1 : (x.length : Int) = (y.length : Int) := by omega
    have HL := hide hl
    have HY := hide (intsB_yes hl)
    rw [← hl]
    clear hl hl1
    go_enter Try.func21, Try.ntmps21
    go_wp2
    go_loopw [5] (fun i wr => ∃ (k : Nat), k ≤ x.length ∧ i = .int .i64 k ∧ Hid (∀ j, j < k → x.getD j 0 = y.getD j 0) ∧ Below w.heap.size w wr) (fun i _ => x.length - (intOf i).toNat)
    case atStart => exact ⟨0, by omega, rfl, fun j hj => by omega, Below.refl _ _⟩
    case round =>
      obtain ⟨k, hk, rfl, HA, hbr⟩ := hrel
      by_cases hlt : k < x.length
      · obtain ⟨b, o, rfl, hck⟩ := hxc k hlt
        obtain ⟨b', o', rfl, hck'⟩ := hyc k (by have := HL.out; omega)
        have HN := hide (intsB_no (a := x) (b := y) (k := k))
        have HS : Hid (x.getD k 0 = y.getD k 0 → ∀ j, j < k + 1 → x.getD j 0 = y.getD j 0) := hide fun h j hj => by
          rcases Nat.lt_or_ge j k with h1 | h1
          · exact HA.out j h1
          · obtain rfl : j = k := by omega
            exact h
        generalize x.getD k 0 = s at hck HN HS
        generalize y.getD k 0 = t at hck' HN HS
        have c1 := bwc (keep hbr hck)
        have c2 := bwc (keep hbr hck')
        clear hxc hyc hck hck'
        go_wp2
        refine wp_region_bw (by kernel_rfl) (by kernel_rfl) ?_
        repeat (go_big_quiet_step (fail))
        refine wpQuiet_nil ?_
        rintro _ ⟨i, rfl⟩
        by_cases hst : s = t
        · have HST := hide hst
          subst hst
          go_wp2
          go_roundw
          case rel => exact ⟨k + 1, by omega, by go_num, HS.out rfl, bwb i hbr hbr.size⟩
          case measure => simp [intOf]; omega
        · have HST := hide (HN.out hst)
          go_wp2
          go_ret
          exact ⟨ret_bool HST.out.symm, bwb i hbr hbr.size⟩
      · obtain rfl : k = x.length := by omega
        go_wp2
        go_ret
        exact ⟨ret_bool (HY.out HA.out).symm, hbr⟩
  · have HN := hide (intsB_len hl)
    have hl1 : ¬ (x.length : Int) = (y.length : Int) := by omega
    go_enter Try.func21, Try.ntmps21
    go_wp2
    go_ret
    exact ⟨ret_bool HN.out.symm, Below.refl _ _⟩
end Go.Proofs.Ytppfdjjhloaopaa
