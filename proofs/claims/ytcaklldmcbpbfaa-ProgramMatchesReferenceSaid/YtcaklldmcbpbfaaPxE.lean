/- The walk of SameProof of the reference at equal proofs. Conditions: how the arguments lie in memory. -/
import Derived.Test.YtcaklldmcbpbfaaPxB
namespace Go.Proofs.Ytcaklldmcbpbfaa
open Go.RowKit

set_option maxRecDepth 100000 in
set_option maxHeartbeats 4000000 in
theorem sameproof_any (l : List StepD) (v u : Value) (w : World) (hv : StepsIn w.cell? v l) (hu : StepsIn w.cell? u l) : Calls Try.prog 18 #[v, u] w (Ret (.bool true) w) := by
  obtain ⟨a, c, rfl, hl1, hl2, hc⟩ := hv
  obtain ⟨a', c', rfl, -, -, hc'⟩ := hu
  have HC := hide hc
  have HC' := hide hc'
  have hm : (l.length : Int) ≤ 9223372036854775807 := by omega
  clear hc hc'
  go_enter Try.func18, Try.ntmps18
  go_wp2_with fail
  go_loopw [5] (fun i wr => ∃ k : Nat, k ≤ l.length ∧ i = .int .i64 k ∧ Below w.heap.size w wr) (fun i _ => l.length - (intOf i).toNat)
  case atStart => exact ⟨0, by omega, rfl, Below.refl _ _⟩
  case round =>
    obtain ⟨k, hk, rfl, hbr⟩ := hrel
    by_cases hlt : k < l.length
    · obtain ⟨b1, o1, wv1, e1, h10, h11, h12, h13, hw1⟩ := HC.out k hlt
      obtain ⟨b2, o2, wv2, e2, h20, h21, h22, h23, hw2⟩ := HC'.out k hlt
      subst e1 e2
      generalize l.getD k st0 = x at h10 h11 h12 hw1 h20 h21 h22 hw2
      obtain ⟨xv, xn, xy, xw⟩ := x
      dsimp only at h10 h11 h12 hw1 h20 h21 h22 hw2
      obtain ⟨xa, xc, rfl, hx1, hx2, hxc⟩ := hw1
      obtain ⟨ya, yc, rfl, hy1, hy2, hyc⟩ := hw2
      have HX := hide hxc
      have HY := hide hyc
      have hxm : (xw.length : Int) ≤ 9223372036854775807 := by omega
      have hkl : decide (k < l.length) = true := by simpa using hlt
      have p0 := bwc (keep hbr h10)
      have p1 := bwc (keep hbr h11)
      have p2 := bwc (keep hbr h12)
      have p3 := bwc (keep hbr h13)
      have q0 := bwc (keep hbr h20)
      have q1 := bwc (keep hbr h21)
      have q2 := bwc (keep hbr h22)
      have q3 := bwc (keep hbr h23)
      clear hxc hyc h10 h11 h12 h20 h21 h22
      go_wp2_with fail
      refine wp_region_bw (by kernel_rfl) (by kernel_rfl) ?_
      repeat (go_big_quiet_step (fail))
      refine wpQuiet_nil ?_
      rintro _ ⟨i, rfl⟩
      have hbi := below2 hbr i.h
      generalize i.W = WI at *
      clear p0 p1 p2 p3 q0 q1 q2 q3
      go_wp2_with fail
      go_loopw [6] (fun i wr => ∃ j : Nat, j ≤ xw.length ∧ i = .int .i64 j ∧ Below w.heap.size w wr) (fun i _ => xw.length - (intOf i).toNat)
      case atStart => exact ⟨0, by omega, rfl, hbi⟩
      case round =>
        obtain ⟨j, hj, rfl, hbj⟩ := hrel
        have r3 := keep hbj h13
        by_cases hlj : j < xw.length
        · obtain ⟨b3, o3, e3, z0, z1⟩ := HX.out j hlj
          obtain ⟨b4, o4, e4, y0, y1⟩ := HY.out j hlj
          subst e3 e4
          generalize xw.getD j (0, 0) = y at z0 z1 y0 y1
          obtain ⟨yr, yt⟩ := y
          dsimp only at z0 z1 y0 y1
          have hjl : decide (j < xw.length) = true := by simpa using hlj
          have p3 := bwc (keep hbj h13)
          have q3 := bwc (keep hbj h23)
          have p0 := bwc (keep hbj z0)
          have p1 := bwc (keep hbj z1)
          have q0 := bwc (keep hbj y0)
          have q1 := bwc (keep hbj y1)
          clear z0 z1 y0 y1
          go_wp2_with fail
          refine wp_region_bw (by kernel_rfl) (by kernel_rfl) ?_
          repeat (go_big_quiet_step (fail))
          refine wpQuiet_nil ?_
          rintro _ ⟨i, rfl⟩
          have hbi := below2 hbj i.h
          go_wp2_with fail
          go_roundw
          case rel => exact ⟨j + 1, by omega, by go_num, hbi⟩
          case measure => simp [intOf]; omega
        · obtain rfl : j = xw.length := by omega
          go_wp2_with fail
          go_roundw
          case rel => exact ⟨k + 1, by omega, by go_num, hbj⟩
          case measure => simp [intOf]; omega
    · obtain rfl : k = l.length := by omega
      go_wp2_with fail
      go_ret
      exact ⟨rfl, hbr⟩
end Go.Proofs.Ytcaklldmcbpbfaa
