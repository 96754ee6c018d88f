/- Walks of the small functions of package program and of its reference that only read: each returns what its plain word says. Conditions: as each theorem says (sizes; a choice that is not negative). -/
import Derived.Test.YtcaklldmcbpbfaaBase
import Derived.Test.YtcaklldmcbpbfaaPmodA
namespace Go.Proofs.Ytcaklldmcbpbfaa
open Go.RowKit

set_option maxHeartbeats 400000 in
theorem total_any (l : List Int) (s : Nat) (v : Value) (w : World) (hv : IntsAt w v l) (hl : l.length ≤ 13) (hb : l.all bndB = true) :
    Calls Try.prog 42 #[v, .int .i64 s] w (Ret (.int .i64 (chosenF l s)) w) := by
  obtain ⟨a, c, rfl, -, -, hc⟩ := hv
  go_enter Try.func42, Try.ntmps42
  go_wp2
  go_loopw [5, 6] (fun s5 i wr => ∃ (k : Nat), k ≤ l.length ∧ i = .int .i64 k ∧ s5 = .int .i64 (chosK l s k) ∧ Below w.heap.size w wr) (fun _ i _ => l.length - (intOf i).toNat)
  case atStart => exact ⟨0, by omega, rfl, rfl, Below.refl _ _⟩
  case round =>
    obtain ⟨k, hk, rfl, rfl, hbr⟩ := hrel
    by_cases hlt : k < l.length
    · obtain ⟨b, o, rfl, hck⟩ := hc k hlt
      have hbd := chosK_bound l s hb k (by omega)
      have hbk := all_at (d := 0) hb hlt
      simp only [bndB, decide_eq_true_eq] at hbk
      have hfin : chosK l s (k + 1) = chosK l s k + l.getD k 0 * ((s / 2 ^ k % 2 : Nat) : Int) := by
        simp only [chosK]; rcases bit01 s k with h | h <;> simp [h]
      have hbit := bit01 s k
      generalize l.getD k 0 = x at hck hbk hfin
      generalize chosK l s k = t at hbd hfin ⊢
      have c1 := bwc (keep hbr hck)
      have HF := hide hfin
      clear hc hb hfin hbit
      go_wp2
      refine wp_region_bw (by kernel_rfl) (by kernel_rfl) ?_
      repeat (go_big_quiet_step (fail))
      refine wpQuiet_nil ?_
      rintro _ ⟨i, rfl⟩
      go_wp2
      go_roundw
      case rel => exact ⟨k + 1, by omega, by go_num, i64_eq (by rw [HF.out, tot_step s k x t hbk hbd (by omega)]), bwb i hbr hbr.size⟩
      case measure => simp [intOf]; omega
    · obtain rfl : k = l.length := by omega
      go_wp2
      go_ret
      exact ⟨rfl, hbr⟩
set_option maxHeartbeats 400000 in
theorem bounded_any (l : List Int) (v : Value) (w : World) (hv : IntsAt w v l) :
    Calls Try.prog 51 #[v] w (Ret (.bool (l.all bndB)) w) := by
  obtain ⟨a, c, rfl, hlc, hcm, hc⟩ := hv
  go_enter Try.func51, Try.ntmps51
  go_wp2
  go_loopw [3] (fun i wr => ∃ (k : Nat), k ≤ l.length ∧ i = .int .i64 k ∧ Hid ((l.take k).all bndB = true) ∧ Below w.heap.size w wr) (fun i _ => l.length - (intOf i).toNat)
  case atStart => exact ⟨0, by omega, rfl, rfl, Below.refl _ _⟩
  case round =>
    obtain ⟨k, hk, rfl, HA, hbr⟩ := hrel
    by_cases hlt : k < l.length
    · obtain ⟨b, o, rfl, hck⟩ := hc k hlt
      have HT := hide (all_take_succ (d := 0) (p := bndB) hlt HA.out)
      have HN := hide (all_no (d := 0) (p := bndB) hlt)
      generalize l.getD k 0 = x at hck HT HN
      have ck := keep hbr hck
      clear hc
      by_cases h1 : x < -1000000000
      · go_wp2
        go_ret
        exact ⟨ret_bool (HN.out (by simp [bndB]; omega)).symm, hbr⟩
      · by_cases h2 : 1000000000 < x
        · go_wp2
          go_ret
          exact ⟨ret_bool (HN.out (by simp [bndB]; omega)).symm, hbr⟩
        · go_wp2
          go_roundw
          case rel => exact ⟨k + 1, by omega, by go_num, HT.out (by simp [bndB]; omega), hbr⟩
          case measure => simp [intOf]; omega
    · go_wp2
      go_ret
      exact ⟨ret_bool (all_take_end (by omega) HA.out).symm, hbr⟩
end Go.Proofs.Ytcaklldmcbpbfaa
