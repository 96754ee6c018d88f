/- The walk of the law's index. Conditions: how the list lies in memory. -/
import Derived.Test.YtdjldidfnddpmaaSxH
import Derived.Test.YtdjldidfnddpmaaSxK
namespace Go.Proofs.Ytdjldidfnddpmaa
open Go.RowKit
set_option maxRecDepth 100000 in
set_option maxHeartbeats 2000000 in
theorem indexl_any (l : List Int) (n : Int) (v : Value) (w : World) (hv : IntsIn w.cell? v l) : Calls Try.prog 18 #[v, .int .i64 n] w (Ret (.int .i64 (idxI l n)) w) := by
  have HV := hide hv
  obtain ⟨a, m, rfl, h1, h2, -⟩ := id hv
  have HF := hide (fun k (h0 : k < l.length) => idxI_first (n := n) h0)
  have HN := hide (idxI_not (n := n) (l := l))
  generalize idxI l n = R at HF HN ⊢
  clear hv
  have hlI : (l.length : Int) ≤ 9223372036854775807 := by omega
  go_enter Try.func18, Try.ntmps18
  go_wp2_with fail
  go_loopw [5] (fun i wr => ∃ k : Nat, k ≤ l.length ∧ i = .int .i64 k ∧ Hid (n ∉ l.take k) ∧ Below w.heap.size w wr) (fun i _ => l.length - (intOf i).toNat)
  case atStart => exact ⟨0, by omega, rfl, hide (by simp), Below.refl _ _⟩
  case round =>
    obtain ⟨k, hk, rfl, HM, hbr⟩ := hrel
    by_cases hlt : k < l.length
    · have HK := hide hlt
      obtain ⟨a', m', e', -, -, hc⟩ := HV.out
      cases e'
      obtain ⟨b, o, rfl, hckw⟩ := hc k hlt
      have hltI : (k : Int) < l.length := by omega
      have HMT := hide (mem_take_succ (n := n) hlt HM.out)
      have HFK := hide (HF.out k hlt HM.out)
      generalize l.getD k 0 = x at hckw HMT HFK
      have hck := keep hbr hckw
      clear hc
      by_cases hx : x = n
      · subst hx
        have e' : (x == x) = true := by simp
        have HR := hide (HFK.out rfl)
        go_wp2_with fail
        go_ret
        exact ⟨by rw [HR.out]; rfl, hbr⟩
      · have e' : (x == n) = false := by simp [hx]
        have HMN := hide (HMT.out hx)
        clear hx HMT HFK
        go_wp2_with fail
        go_roundw
        case rel => exact ⟨k + 1, by have := HK.out; omega, by go_num, HMN, hbr⟩
        case measure => have := HK.out; simp [intOf]; omega
    · obtain rfl : k = l.length := by omega
      have HE := hide (HN.out (by have := HM.out; rwa [List.take_length] at this))
      go_wp2_with fail
      go_ret
      exact ⟨by rw [HE.out]; rfl, hbr⟩
end Go.Proofs.Ytdjldidfnddpmaa
