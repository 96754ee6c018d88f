/- The walk of few of the laws. Conditions: how the argument lies in memory. -/
import Derived.Test.YtcaklldmcbpbfaaPxD
namespace Go.Proofs.Ytcaklldmcbpbfaa
open Go.RowKit

theorem take_min13 {α : Type} (l : List α) (m : Nat) : l.take (min l.length m) = l.take m := by
  rcases Nat.le_total l.length m with h | h
  · rw [Nat.min_eq_left h, List.take_length, List.take_of_length_le h]
  · rw [Nat.min_eq_right h]
/-- a call returns a program, which may share memory with what was there -/
def ProgQ1 (p : ProgD) (w : World) (e : Ending) (w' : World) : Prop :=
  ∃ rv gv, e = .returned (progV p rv gv) ∧ RowsAt w' rv p.rows ∧ IntsAt w' gv p.gain ∧ Below w.heap.size w w'
set_option maxRecDepth 100000 in
set_option maxHeartbeats 4000000 in
theorem few_any (p : ProgD) (rv gv : Value) (w : World) (hr : RowsAt w rv p.rows) (hg : IntsAt w gv p.gain) :
    Calls Try.prog 13 #[progV p rv gv] w (ProgQ1 (fewF p) w) := by
  have HG0 := hg
  obtain ⟨ra, rc, rfl, hrl, hrm, hrc⟩ := id hr
  obtain ⟨ga, gc, rfl, hgl, hgm, -⟩ := id hg
  have hm1 : (p.rows.length : Int) ≤ 9223372036854775807 := by omega
  have hm2 : (p.gain.length : Int) ≤ 9223372036854775807 := by omega
  have HRC := hide hrc
  have HFF : Hid (fewF p = ⟨p.vars, cutUp p.rows (min p.rows.length 20), p.gain.take 13⟩) := hide rfl
  obtain ⟨gm, hgm'⟩ : ∃ gm, gm = min p.gain.length 13 := ⟨_, rfl⟩
  have HGT : Hid (p.gain.take 13 = p.gain.take gm) := hide (by rw [hgm', take_min13])
  have hmin : (if (13 : Int) < (p.gain.length : Int) then (13 : Int) else (p.gain.length : Int)) = (gm : Int) := by split <;> omega
  have hgl1 : gm ≤ p.gain.length := by omega
  have hgl2 : gm ≤ gc := by omega
  have HGI := hide (ints_take HG0 hgl1)
  clear hr hg hrc hgm'
  go_enter Try.func13, Try.ntmps13
  go_wp2_with fail
  generalize hX1 : World.alloc w _ = X1
  have zX1 : X1.heap.size = w.heap.size + 1 := by rw [← hX1]; simp
  have bX1 : Below w.heap.size w X1 := by rw [← hX1]; exact bal w _
  have bP_1 : Blk X1 (w.heap.size) [.int .i64 p.vars, .slice ra p.rows.length rc, .slice ga p.gain.length gc] 29 := by rw [← hX1]; exact Blk.newA w _ (by first | rfl | simp)
  generalize hX2 : World.alloc X1 _ = X2
  have zX2 : X2.heap.size = w.heap.size + 1 + 1 := by rw [← hX2]; simp [zX1]
  have bX2 : Below X1.heap.size X1 X2 := by rw [← hX2]; exact bal X1 _
  have bR : Blk X2 (w.heap.size + 1) [.int .i64 0, .slice none 0 0, .slice none 0 0] 29 := by rw [← hX2, ← zX1]; exact Blk.newA X1 _ (by first | rfl | simp)
  have bP := bP_1.later bX2
  have Xb := below2 (bX1) bX2
  have Xz := zX2
  clear hX1 zX1 bX1 hX2 zX2 bX2 bP_1
  have p0 := bP.cell 0 rfl
  have p2 := bP.cell 2 rfl
  refine wp_region_inv [some 6, some 7, some 8, some 9, some 10, some 11, some 12, some 13, some 14, some 15, some 3, none] (fun L vs W => match vs with | [x0, x1, x2, x3, x4, x5, x6, x7, x8, x9, x10, x11] => (Below X2.heap.size X2 W) ∧ (L 0 = true → x0 = .pointer (some ⟨w.heap.size, 0, none⟩)) ∧ (L 1 = true → x1 = .int .i64 p.vars) ∧ (L 2 = true → x2 = .pointer (some ⟨w.heap.size, 2, none⟩)) ∧ (L 3 = true → x3 = .slice ga p.gain.length gc) ∧ (L 4 = true → x4 = .pointer (some ⟨w.heap.size, 2, none⟩)) ∧ (L 5 = true → x5 = .slice ga p.gain.length gc) ∧ (L 6 = true → x6 = .int .i64 p.gain.length) ∧ (L 7 = true → x7 = .int .i64 gm) ∧ (L 8 = true → x8 = .slice ga gm gc) ∧ (L 9 = true → x9 = .agg #[.int .i64 p.vars, .slice none 0 0, .slice ga gm gc]) ∧ (L 10 = true → L 11 = false → ∃ R : Nat, X2.heap.size ≤ R ∧ x10 = .pointer (some ⟨R, 0, none⟩) ∧ Blk W R [.int .i64 0, .slice none 0 0, .slice none 0 0] 29) ∧ (L 11 = true → L 10 = true ∧ ∃ R : Nat, X2.heap.size ≤ R ∧ x10 = .pointer (some ⟨R, 0, none⟩) ∧ Blk W R [.int .i64 p.vars, .slice none 0 0, .slice ga gm gc] 29) | _ => False) [_, _, _, _, _, _, _, _, _, _, _, undef] (by kernel_rfl) (by kernel_rfl) rfl (by simp only [puts, Act.put, List.setIfInBounds_toArray, List.set_cons_zero, List.set_cons_succ] <;> rfl) ?_ ?_ ?_
  · exact ⟨(Below.refl _ _).drew, (fun h => by cases h), (fun h => by cases h), (fun h => by cases h), (fun h => by cases h), (fun h => by cases h), (fun h => by cases h), (fun h => by cases h), (fun h => by cases h), (fun h => by cases h), (fun h => by cases h), (fun h => by cases h), (fun h => by cases h)⟩
  · refine ⟨?_, ?_, ?_, ?_, ?_, ?_, ?_, ?_, ?_, ?_, ?_, ?_, trivial⟩
    · intro L vs W hlen hL hD hI K hK
      obtain ⟨x0, x1, x2, x3, x4, x5, x6, x7, x8, x9, x10, x11, rfl⟩ := len12 hlen
      have hG := hI.1
      replace hI := hI.2
      have f0 := hide hI.1
      replace hI := hI.2
      have f1 := hide hI.1
      replace hI := hI.2
      have f2 := hide hI.1
      replace hI := hI.2
      have f3 := hide hI.1
      replace hI := hI.2
      have f4 := hide hI.1
      replace hI := hI.2
      have f5 := hide hI.1
      replace hI := hI.2
      have f6 := hide hI.1
      replace hI := hI.2
      have f7 := hide hI.1
      replace hI := hI.2
      have f8 := hide hI.1
      replace hI := hI.2
      have f9 := hide hI.1
      replace hI := hI.2
      have f10 := hide hI.1
      replace hI := hI.2
      have f11 := hide hI
      clear hI
      have p0 := keep hG p0
      have p2 := keep hG p2
      try simp only [puts, Act.put, List.setIfInBounds_toArray, List.set_cons_zero, List.set_cons_succ]
      try go_simp
      exact hK.out _ _ _ (by simp only [puts, Act.put, List.setIfInBounds_toArray, List.set_cons_zero, List.set_cons_succ] <;> rfl) ⟨hG, (fun _ => rfl), (fun h => f1.out h), (fun h => f2.out h), (fun h => f3.out h), (fun h => f4.out h), (fun h => f5.out h), (fun h => f6.out h), (fun h => f7.out h), (fun h => f8.out h), (fun h => f9.out h), (fun h => f10.out h), (fun h => f11.out h)⟩
    · intro L vs W hlen hL hD hI K hK
      obtain ⟨x0, x1, x2, x3, x4, x5, x6, x7, x8, x9, x10, x11, rfl⟩ := len12 hlen
      have hG := hI.1
      replace hI := hI.2
      have f0 := hide hI.1
      replace hI := hI.2
      have f1 := hide hI.1
      replace hI := hI.2
      have f2 := hide hI.1
      replace hI := hI.2
      have f3 := hide hI.1
      replace hI := hI.2
      have f4 := hide hI.1
      replace hI := hI.2
      have f5 := hide hI.1
      replace hI := hI.2
      have f6 := hide hI.1
      replace hI := hI.2
      have f7 := hide hI.1
      replace hI := hI.2
      have f8 := hide hI.1
      replace hI := hI.2
      have f9 := hide hI.1
      replace hI := hI.2
      have f10 := hide hI.1
      replace hI := hI.2
      have f11 := hide hI
      clear hI
      have p0 := keep hG p0
      have p2 := keep hG p2
      obtain rfl := f0.out (hD.on 0 (by kernel_rfl))
      try simp only [puts, Act.put, List.setIfInBounds_toArray, List.set_cons_zero, List.set_cons_succ]
      try go_simp
      exact hK.out _ _ _ (by simp only [puts, Act.put, List.setIfInBounds_toArray, List.set_cons_zero, List.set_cons_succ] <;> rfl) ⟨hG, (fun h => f0.out h), (fun _ => rfl), (fun h => f2.out h), (fun h => f3.out h), (fun h => f4.out h), (fun h => f5.out h), (fun h => f6.out h), (fun h => f7.out h), (fun h => f8.out h), (fun h => f9.out h), (fun h => f10.out h), (fun h => f11.out h)⟩
    · intro L vs W hlen hL hD hI K hK
      obtain ⟨x0, x1, x2, x3, x4, x5, x6, x7, x8, x9, x10, x11, rfl⟩ := len12 hlen
      have hG := hI.1
      replace hI := hI.2
      have f0 := hide hI.1
      replace hI := hI.2
      have f1 := hide hI.1
      replace hI := hI.2
      have f2 := hide hI.1
      replace hI := hI.2
      have f3 := hide hI.1
      replace hI := hI.2
      have f4 := hide hI.1
      replace hI := hI.2
      have f5 := hide hI.1
      replace hI := hI.2
      have f6 := hide hI.1
      replace hI := hI.2
      have f7 := hide hI.1
      replace hI := hI.2
      have f8 := hide hI.1
      replace hI := hI.2
      have f9 := hide hI.1
      replace hI := hI.2
      have f10 := hide hI.1
      replace hI := hI.2
      have f11 := hide hI
      clear hI
      have p0 := keep hG p0
      have p2 := keep hG p2
      try simp only [puts, Act.put, List.setIfInBounds_toArray, List.set_cons_zero, List.set_cons_succ]
      try go_simp
      exact hK.out _ _ _ (by simp only [puts, Act.put, List.setIfInBounds_toArray, List.set_cons_zero, List.set_cons_succ] <;> rfl) ⟨hG, (fun h => f0.out h), (fun h => f1.out h), (fun _ => rfl), (fun h => f3.out h), (fun h => f4.out h), (fun h => f5.out h), (fun h => f6.out h), (fun h => f7.out h), (fun h => f8.out h), (fun h => f9.out h), (fun h => f10.out h), (fun h => f11.out h)⟩
    · intro L vs W hlen hL hD hI K hK
      obtain ⟨x0, x1, x2, x3, x4, x5, x6, x7, x8, x9, x10, x11, rfl⟩ := len12 hlen
      have hG := hI.1
      replace hI := hI.2
      have f0 := hide hI.1
      replace hI := hI.2
      have f1 := hide hI.1
      replace hI := hI.2
      have f2 := hide hI.1
      replace hI := hI.2
      have f3 := hide hI.1
      replace hI := hI.2
      have f4 := hide hI.1
      replace hI := hI.2
      have f5 := hide hI.1
      replace hI := hI.2
      have f6 := hide hI.1
      replace hI := hI.2
      have f7 := hide hI.1
      replace hI := hI.2
      have f8 := hide hI.1
      replace hI := hI.2
      have f9 := hide hI.1
      replace hI := hI.2
      have f10 := hide hI.1
      replace hI := hI.2
      have f11 := hide hI
      clear hI
      have p0 := keep hG p0
      have p2 := keep hG p2
      obtain rfl := f2.out (hD.on 2 (by kernel_rfl))
      try simp only [puts, Act.put, List.setIfInBounds_toArray, List.set_cons_zero, List.set_cons_succ]
      try go_simp
      exact hK.out _ _ _ (by simp only [puts, Act.put, List.setIfInBounds_toArray, List.set_cons_zero, List.set_cons_succ] <;> rfl) ⟨hG, (fun h => f0.out h), (fun h => f1.out h), (fun h => f2.out h), (fun _ => rfl), (fun h => f4.out h), (fun h => f5.out h), (fun h => f6.out h), (fun h => f7.out h), (fun h => f8.out h), (fun h => f9.out h), (fun h => f10.out h), (fun h => f11.out h)⟩
    · intro L vs W hlen hL hD hI K hK
      obtain ⟨x0, x1, x2, x3, x4, x5, x6, x7, x8, x9, x10, x11, rfl⟩ := len12 hlen
      have hG := hI.1
      replace hI := hI.2
      have f0 := hide hI.1
      replace hI := hI.2
      have f1 := hide hI.1
      replace hI := hI.2
      have f2 := hide hI.1
      replace hI := hI.2
      have f3 := hide hI.1
      replace hI := hI.2
      have f4 := hide hI.1
      replace hI := hI.2
      have f5 := hide hI.1
      replace hI := hI.2
      have f6 := hide hI.1
      replace hI := hI.2
      have f7 := hide hI.1
      replace hI := hI.2
      have f8 := hide hI.1
      replace hI := hI.2
      have f9 := hide hI.1
      replace hI := hI.2
      have f10 := hide hI.1
      replace hI := hI.2
      have f11 := hide hI
      clear hI
      have p0 := keep hG p0
      have p2 := keep hG p2
      try simp only [puts, Act.put, List.setIfInBounds_toArray, List.set_cons_zero, List.set_cons_succ]
      try go_simp
      exact hK.out _ _ _ (by simp only [puts, Act.put, List.setIfInBounds_toArray, List.set_cons_zero, List.set_cons_succ] <;> rfl) ⟨hG, (fun h => f0.out h), (fun h => f1.out h), (fun h => f2.out h), (fun h => f3.out h), (fun _ => rfl), (fun h => f5.out h), (fun h => f6.out h), (fun h => f7.out h), (fun h => f8.out h), (fun h => f9.out h), (fun h => f10.out h), (fun h => f11.out h)⟩
    · intro L vs W hlen hL hD hI K hK
      obtain ⟨x0, x1, x2, x3, x4, x5, x6, x7, x8, x9, x10, x11, rfl⟩ := len12 hlen
      have hG := hI.1
      replace hI := hI.2
      have f0 := hide hI.1
      replace hI := hI.2
      have f1 := hide hI.1
      replace hI := hI.2
      have f2 := hide hI.1
      replace hI := hI.2
      have f3 := hide hI.1
      replace hI := hI.2
      have f4 := hide hI.1
      replace hI := hI.2
      have f5 := hide hI.1
      replace hI := hI.2
      have f6 := hide hI.1
      replace hI := hI.2
      have f7 := hide hI.1
      replace hI := hI.2
      have f8 := hide hI.1
      replace hI := hI.2
      have f9 := hide hI.1
      replace hI := hI.2
      have f10 := hide hI.1
      replace hI := hI.2
      have f11 := hide hI
      clear hI
      have p0 := keep hG p0
      have p2 := keep hG p2
      obtain rfl := f4.out (hD.on 4 (by kernel_rfl))
      try simp only [puts, Act.put, List.setIfInBounds_toArray, List.set_cons_zero, List.set_cons_succ]
      try go_simp
      exact hK.out _ _ _ (by simp only [puts, Act.put, List.setIfInBounds_toArray, List.set_cons_zero, List.set_cons_succ] <;> rfl) ⟨hG, (fun h => f0.out h), (fun h => f1.out h), (fun h => f2.out h), (fun h => f3.out h), (fun h => f4.out h), (fun _ => rfl), (fun h => f6.out h), (fun h => f7.out h), (fun h => f8.out h), (fun h => f9.out h), (fun h => f10.out h), (fun h => f11.out h)⟩
    · intro L vs W hlen hL hD hI K hK
      obtain ⟨x0, x1, x2, x3, x4, x5, x6, x7, x8, x9, x10, x11, rfl⟩ := len12 hlen
      have hG := hI.1
      replace hI := hI.2
      have f0 := hide hI.1
      replace hI := hI.2
      have f1 := hide hI.1
      replace hI := hI.2
      have f2 := hide hI.1
      replace hI := hI.2
      have f3 := hide hI.1
      replace hI := hI.2
      have f4 := hide hI.1
      replace hI := hI.2
      have f5 := hide hI.1
      replace hI := hI.2
      have f6 := hide hI.1
      replace hI := hI.2
      have f7 := hide hI.1
      replace hI := hI.2
      have f8 := hide hI.1
      replace hI := hI.2
      have f9 := hide hI.1
      replace hI := hI.2
      have f10 := hide hI.1
      replace hI := hI.2
      have f11 := hide hI
      clear hI
      have p0 := keep hG p0
      have p2 := keep hG p2
      obtain rfl := f5.out (hD.on 5 (by kernel_rfl))
      try simp only [puts, Act.put, List.setIfInBounds_toArray, List.set_cons_zero, List.set_cons_succ]
      try go_simp
      exact hK.out _ _ _ (by simp only [puts, Act.put, List.setIfInBounds_toArray, List.set_cons_zero, List.set_cons_succ] <;> rfl) ⟨hG, (fun h => f0.out h), (fun h => f1.out h), (fun h => f2.out h), (fun h => f3.out h), (fun h => f4.out h), (fun h => f5.out h), (fun _ => rfl), (fun h => f7.out h), (fun h => f8.out h), (fun h => f9.out h), (fun h => f10.out h), (fun h => f11.out h)⟩
    · intro L vs W hlen hL hD hI K hK
      obtain ⟨x0, x1, x2, x3, x4, x5, x6, x7, x8, x9, x10, x11, rfl⟩ := len12 hlen
      have hG := hI.1
      replace hI := hI.2
      have f0 := hide hI.1
      replace hI := hI.2
      have f1 := hide hI.1
      replace hI := hI.2
      have f2 := hide hI.1
      replace hI := hI.2
      have f3 := hide hI.1
      replace hI := hI.2
      have f4 := hide hI.1
      replace hI := hI.2
      have f5 := hide hI.1
      replace hI := hI.2
      have f6 := hide hI.1
      replace hI := hI.2
      have f7 := hide hI.1
      replace hI := hI.2
      have f8 := hide hI.1
      replace hI := hI.2
      have f9 := hide hI.1
      replace hI := hI.2
      have f10 := hide hI.1
      replace hI := hI.2
      have f11 := hide hI
      clear hI
      have p0 := keep hG p0
      have p2 := keep hG p2
      obtain rfl := f6.out (hD.on 6 (by kernel_rfl))
      try simp only [puts, Act.put, List.setIfInBounds_toArray, List.set_cons_zero, List.set_cons_succ]
      try go_simp
      exact hK.out _ _ _ (by simp only [puts, Act.put, List.setIfInBounds_toArray, List.set_cons_zero, List.set_cons_succ] <;> rfl) ⟨hG, (fun h => f0.out h), (fun h => f1.out h), (fun h => f2.out h), (fun h => f3.out h), (fun h => f4.out h), (fun h => f5.out h), (fun h => f6.out h), (fun _ => rfl), (fun h => f8.out h), (fun h => f9.out h), (fun h => f10.out h), (fun h => f11.out h)⟩
    · intro L vs W hlen hL hD hI K hK
      obtain ⟨x0, x1, x2, x3, x4, x5, x6, x7, x8, x9, x10, x11, rfl⟩ := len12 hlen
      have hG := hI.1
      replace hI := hI.2
      have f0 := hide hI.1
      replace hI := hI.2
      have f1 := hide hI.1
      replace hI := hI.2
      have f2 := hide hI.1
      replace hI := hI.2
      have f3 := hide hI.1
      replace hI := hI.2
      have f4 := hide hI.1
      replace hI := hI.2
      have f5 := hide hI.1
      replace hI := hI.2
      have f6 := hide hI.1
      replace hI := hI.2
      have f7 := hide hI.1
      replace hI := hI.2
      have f8 := hide hI.1
      replace hI := hI.2
      have f9 := hide hI.1
      replace hI := hI.2
      have f10 := hide hI.1
      replace hI := hI.2
      have f11 := hide hI
      clear hI
      have p0 := keep hG p0
      have p2 := keep hG p2
      obtain rfl := f3.out (hD.on 3 (by kernel_rfl))
      obtain rfl := f7.out (hD.on 7 (by kernel_rfl))
      try simp only [puts, Act.put, List.setIfInBounds_toArray, List.set_cons_zero, List.set_cons_succ]
      try go_simp
      exact hK.out _ _ _ (by simp only [puts, Act.put, List.setIfInBounds_toArray, List.set_cons_zero, List.set_cons_succ] <;> rfl) ⟨hG, (fun h => f0.out h), (fun h => f1.out h), (fun h => f2.out h), (fun h => f3.out h), (fun h => f4.out h), (fun h => f5.out h), (fun h => f6.out h), (fun h => f7.out h), (fun _ => rfl), (fun h => f9.out h), (fun h => f10.out h), (fun h => f11.out h)⟩
    · intro L vs W hlen hL hD hI K hK
      obtain ⟨x0, x1, x2, x3, x4, x5, x6, x7, x8, x9, x10, x11, rfl⟩ := len12 hlen
      have hG := hI.1
      replace hI := hI.2
      have f0 := hide hI.1
      replace hI := hI.2
      have f1 := hide hI.1
      replace hI := hI.2
      have f2 := hide hI.1
      replace hI := hI.2
      have f3 := hide hI.1
      replace hI := hI.2
      have f4 := hide hI.1
      replace hI := hI.2
      have f5 := hide hI.1
      replace hI := hI.2
      have f6 := hide hI.1
      replace hI := hI.2
      have f7 := hide hI.1
      replace hI := hI.2
      have f8 := hide hI.1
      replace hI := hI.2
      have f9 := hide hI.1
      replace hI := hI.2
      have f10 := hide hI.1
      replace hI := hI.2
      have f11 := hide hI
      clear hI
      have p0 := keep hG p0
      have p2 := keep hG p2
      obtain rfl := f1.out (hD.on 1 (by kernel_rfl))
      obtain rfl := f8.out (hD.on 8 (by kernel_rfl))
      try simp only [puts, Act.put, List.setIfInBounds_toArray, List.set_cons_zero, List.set_cons_succ]
      try go_simp
      exact hK.out _ _ _ (by simp only [puts, Act.put, List.setIfInBounds_toArray, List.set_cons_zero, List.set_cons_succ] <;> rfl) ⟨hG, (fun h => f0.out h), (fun h => f1.out h), (fun h => f2.out h), (fun h => f3.out h), (fun h => f4.out h), (fun h => f5.out h), (fun h => f6.out h), (fun h => f7.out h), (fun h => f8.out h), (fun _ => rfl), (fun h => f10.out h), (fun h => f11.out h)⟩
    · intro L vs W hlen hL hD hI K hK
      obtain ⟨x0, x1, x2, x3, x4, x5, x6, x7, x8, x9, x10, x11, rfl⟩ := len12 hlen
      have hG := hI.1
      replace hI := hI.2
      have f0 := hide hI.1
      replace hI := hI.2
      have f1 := hide hI.1
      replace hI := hI.2
      have f2 := hide hI.1
      replace hI := hI.2
      have f3 := hide hI.1
      replace hI := hI.2
      have f4 := hide hI.1
      replace hI := hI.2
      have f5 := hide hI.1
      replace hI := hI.2
      have f6 := hide hI.1
      replace hI := hI.2
      have f7 := hide hI.1
      replace hI := hI.2
      have f8 := hide hI.1
      replace hI := hI.2
      have f9 := hide hI.1
      replace hI := hI.2
      have f10 := hide hI.1
      replace hI := hI.2
      have f11 := hide hI
      clear hI
      have p0 := keep hG p0
      have p2 := keep hG p2
      try simp only [puts, Act.put, List.setIfInBounds_toArray, List.set_cons_zero, List.set_cons_succ]
      try go_simp
      generalize hW' : World.alloc W _ = W'
      have hb : Below W.heap.size W W' := by rw [← hW']; exact bal W _
      exact hK.out _ _ _ (by simp only [puts, Act.put, List.setIfInBounds_toArray, List.set_cons_zero, List.set_cons_succ] <;> rfl) ⟨below2 hG hb, (fun h => f0.out h), (fun h => f1.out h), (fun h => f2.out h), (fun h => f3.out h), (fun h => f4.out h), (fun h => f5.out h), (fun h => f6.out h), (fun h => f7.out h), (fun h => f8.out h), (fun h => f9.out h), (fun _ => fun _ => ⟨W.heap.size, hG.size, rfl, by rw [← hW']; exact Blk.newA W _ rfl⟩), (fun h => (fun h => absurd (h.1.symm.trans hL) (by decide)) (f11.out h))⟩
    · intro L vs W hlen hL hD hI K hK
      obtain ⟨x0, x1, x2, x3, x4, x5, x6, x7, x8, x9, x10, x11, rfl⟩ := len12 hlen
      have hG := hI.1
      replace hI := hI.2
      have f0 := hide hI.1
      replace hI := hI.2
      have f1 := hide hI.1
      replace hI := hI.2
      have f2 := hide hI.1
      replace hI := hI.2
      have f3 := hide hI.1
      replace hI := hI.2
      have f4 := hide hI.1
      replace hI := hI.2
      have f5 := hide hI.1
      replace hI := hI.2
      have f6 := hide hI.1
      replace hI := hI.2
      have f7 := hide hI.1
      replace hI := hI.2
      have f8 := hide hI.1
      replace hI := hI.2
      have f9 := hide hI.1
      replace hI := hI.2
      have f10 := hide hI.1
      replace hI := hI.2
      have f11 := hide hI
      clear hI
      have p0 := keep hG p0
      have p2 := keep hG p2
      obtain rfl := f9.out (hD.on 9 (by kernel_rfl))
      have g10 := f10.out (hD.on 10 (by kernel_rfl))
      try simp only [puts, Act.put, List.setIfInBounds_toArray, List.set_cons_zero, List.set_cons_succ]
      obtain ⟨R, hR0, rfl, hRB⟩ := g10 hL
      have n0 := hRB.frozen 0
      have n1 := hRB.frozen 1
      have n2 := hRB.frozen 2
      have t0 := hRB.cell 0 rfl
      have t1 := hRB.cell 1 rfl
      have t2 := hRB.cell 2 rfl
      go_simp
      have hS := set3 hRB (.int .i64 p.vars) (.slice none 0 0) (.slice ga gm gc)
      exact hK.out _ undef _ (by simp only [puts, Act.put, List.setIfInBounds_toArray, List.set_cons_zero, List.set_cons_succ] <;> rfl) ⟨hS.2.1 _ _ hG hR0, (fun h => f0.out h), (fun h => f1.out h), (fun h => f2.out h), (fun h => f3.out h), (fun h => f4.out h), (fun h => f5.out h), (fun h => f6.out h), (fun h => f7.out h), (fun h => f8.out h), (fun h => f9.out h), (fun h => (fun _ h11 => by cases h11) (f10.out h)), (fun _ => ⟨hD.on 10 (by kernel_rfl), R, hR0, rfl, hS.1⟩)⟩
  intro L vs W hlen hall hI
  obtain ⟨x0, x1, x2, x3, x4, x5, x6, x7, x8, x9, x10, x11, rfl⟩ := len12 hlen
  have hG := hI.1
  replace hI := hI.2
  have f0 := hide hI.1
  replace hI := hI.2
  have f1 := hide hI.1
  replace hI := hI.2
  have f2 := hide hI.1
  replace hI := hI.2
  have f3 := hide hI.1
  replace hI := hI.2
  have f4 := hide hI.1
  replace hI := hI.2
  have f5 := hide hI.1
  replace hI := hI.2
  have f6 := hide hI.1
  replace hI := hI.2
  have f7 := hide hI.1
  replace hI := hI.2
  have f8 := hide hI.1
  replace hI := hI.2
  have f9 := hide hI.1
  replace hI := hI.2
  have f10 := hide hI.1
  replace hI := hI.2
  have f11 := hide hI
  clear hI
  obtain rfl := f0.out (hall 0 (by decide))
  obtain rfl := f1.out (hall 1 (by decide))
  obtain rfl := f2.out (hall 2 (by decide))
  obtain rfl := f3.out (hall 3 (by decide))
  obtain rfl := f4.out (hall 4 (by decide))
  obtain rfl := f5.out (hall 5 (by decide))
  obtain rfl := f6.out (hall 6 (by decide))
  obtain rfl := f7.out (hall 7 (by decide))
  obtain rfl := f8.out (hall 8 (by decide))
  obtain rfl := f9.out (hall 9 (by decide))
  have g10 := f10.out (hall 10 (by decide))
  have g11 := f11.out (hall 11 (by decide))
  have hal := hide hall
  clear hall f0 f1 f2 f3 f4 f5 f6 f7 f8 f9 f10 f11
  try simp only [puts, Act.put, List.setIfInBounds_toArray, List.set_cons_zero, List.set_cons_succ]
  obtain ⟨-, O, hO0, rfl, bO⟩ := g11
  obtain ⟨W2, hW2⟩ : ∃ Z, Z = W := ⟨_, rfl⟩
  subst hW2
  clear p0 p2 hal hmin
  have bP2 := bP.later hG
  have bR2 := bR.later hG
  have hbw2 := below2 Xb hG
  have hO1 : w.heap.size + 1 < O := by have := bR.lt; omega
  have hOz := bO.lt
  clear hG bP bR Xb
  go_wp2_with fail
  go_loopw [4] (fun i wr => ∃ (k : Nat) (v : Value) (Lr : List (List Value)), k ≤ min p.rows.length 20 ∧ i = .int .i64 k ∧ Blk wr w.heap.size [.int .i64 p.vars, .slice ra p.rows.length rc, .slice ga p.gain.length gc] 29 ∧
      Blk wr (w.heap.size + 1) [.int .i64 0, .slice none 0 0, .slice none 0 0] 29 ∧ Blk wr O [.int .i64 p.vars, v, .slice ga gm gc] 29 ∧
      OwnR wr W2.heap.size 26 6 v Lr ∧ RowsLow w Lr (cutUp p.rows k) ∧ Below w.heap.size w wr ∧ W2.heap.size ≤ wr.heap.size) (fun i _ => min p.rows.length 20 - (intOf i).toNat)
  case atStart => exact ⟨0, _, [], by omega, rfl, bP2, bR2, bO, OwnR.nil _ _ _ _, ⟨rfl, fun i hi => by simp [cutUp] at hi⟩, hbw2, Nat.le_refl _⟩
  case round =>
    obtain ⟨k, v, Lr, hk, rfl, hP, hR, hO, hOR, hlow, hbr, hz⟩ := hrel
    have p1 := hP.cell 1 rfl
    by_cases hlt : k < p.rows.length
    · have hkl : decide (k < p.rows.length) = true := by simpa using hlt
      by_cases h20 : k < 20
      · have hk20 : decide (k < 20) = true := by simpa using h20
        have hki : decide ((k : Int) < 20) = true := by simp; omega
        obtain ⟨b, o, cv, rfl, hck⟩ := HRC.out k hlt
        have HLW := hide (fun (x : RowD) (cv : Value) (h : IntsAt w cv x.coef) => hlow.app h)
        have hcs := cutUp_succ hlt
        have hlr : Lr.length ≤ 20 := by have := hlow.1; rw [cutUp_len (by omega)] at this; omega
        generalize p.rows.getD k row0 = x at hck hcs
        obtain ⟨e0, e1, e2, e3, e4, e5, e6⟩ := hck.below hbr
        obtain ⟨-, -, -, -, -, -, e7⟩ := hck
        obtain ⟨ca, cc, rfl, hcl, hcm, -⟩ := id e6
        have HCS := hide hcs
        clear hcs
        obtain ⟨cm, hcm'⟩ : ∃ cm, cm = min x.coef.length 13 := ⟨_, rfl⟩
        have HCT : Hid (x.coef.take 13 = x.coef.take cm) := hide (by rw [hcm', take_min13])
        have hmin : (if (13 : Int) < (x.coef.length : Int) then (13 : Int) else (x.coef.length : Int)) = (cm : Int) := by split <;> omega
        have hcl1 : cm ≤ x.coef.length := by omega
        have hcl2 : cm ≤ cc := by omega
        have hxm : (x.coef.length : Int) ≤ 9223372036854775807 := by omega
        have HCI := hide (ints_take e7 hcl1)
        have o1 := hO.cell 1 rfl
        have hOw : O < wr.heap.size := hO.lt
        have hne1 : O ≠ wr.heap.size := by omega
        have hne2 : wr.heap.size ≠ O := by omega
        clear hcm'
        obtain ⟨va, vc, rfl⟩ := own_form hOR rfl
        go_wp2_with (at_builtin; refine app_rec infoRow rfl (by decide) Try.underlying27 rfl _ _ rfl W2.heap.size _ Lr rfl (hOR.later' (bal wr (.cells (rowCells (cutR x) (.slice ca cm cc)).toArray 26))) (rowCells (cutR x) (.slice ca cm cc)) rfl cells6 _ rfl (by simp) (by omega) (by omega) (by simp; omega) ?_; intro g7 c7 w7 hO7 hE7 hz7; have bO7 := hE7.blk (hO.later (bal wr (.cells (rowCells (cutR x) (.slice ca cm cc)).toArray 26))) (by decide); have o71 := bO7.cell 1 rfl; have of7 := bO7.frozen 1)
        have hP7 := (hE7.blk (hP.later (bal wr (.cells (rowCells (cutR x) (.slice ca cm cc)).toArray 26))) (by decide)).other (show w.heap.size ≠ O by omega) 1 (.slice (some ⟨g7, 0, none⟩) (Lr.length + 1) c7)
        have hR7 := (hE7.blk (hR.later (bal wr (.cells (rowCells (cutR x) (.slice ca cm cc)).toArray 26))) (by decide)).other (show w.heap.size + 1 ≠ O by omega) 1 (.slice (some ⟨g7, 0, none⟩) (Lr.length + 1) c7)
        have hsz := hE7.size
        simp at hsz
        have hb7 : Below w.heap.size w w7 := (hbr.trans ((bal wr (.cells (rowCells (cutR x) (.slice ca cm cc)).toArray 26)).mono hbr.size)).trans ((hE7.below (by simp; omega)).mono (by omega))
        go_roundw
        case rel => exact ⟨k + 1, _, _, by omega, by go_num, hP7, hR7, bO7.set 1 _, by have := hO7.setO (j := 1) bO7 (by decide) (.slice (some ⟨g7, 0, none⟩) (Lr.length + 1) c7); rw [List.length_append] at this; exact this, by rw [HCS.out]; exact HLW.out (cutR x) _ (by show IntsAt w _ (x.coef.take 13); rw [HCT.out]; exact HCI.out), hb7.setCell (p := ⟨O, 1, none⟩) (by show w.heap.size ≤ O; omega) _, by simp [World.setCell]; omega⟩
        case measure => simp [intOf]; omega
      · obtain rfl : k = 20 := by omega
        have hk20 : decide ((20 : Nat) < 20) = false := by decide
        have HFW := HFF.out
        rw [(show min p.rows.length 20 = 20 by omega)] at HFW
        have HFZ := hide HFW
        clear HFW
        obtain ⟨va, vc, rfl⟩ := own_form hOR hlow.1
        have HLO := hide hlow
        clear hlow
        generalize cutUp p.rows (20) = OK at *
        have o0 := hO.cell 0 rfl
        have o1 := hO.cell 1 rfl
        have o2 := hO.cell 2 rfl
        have t0 := hR.cell 0 rfl
        have t1 := hR.cell 1 rfl
        have t2 := hR.cell 2 rfl
        have f0 := hR.frozen 0
        have f1 := hR.frozen 1
        have f2 := hR.frozen 2
        go_wp2_with fail
        have hORf := ((hOR.setO (j := 0) hR (by decide) (.int .i64 p.vars)).setO (j := 1) (hR.set 0 _) (by decide) (.slice va OK.length vc)).setO (j := 2) ((hR.set 0 _).set 1 _) (by decide) (.slice ga gm gc)
        obtain ⟨z1, z2, -⟩ := set3 hR (.int .i64 p.vars) (.slice va OK.length vc) (.slice ga gm gc)
        have z3 := z2 _ _ hbr (by omega)
        generalize World.setCell (World.setCell _ _ _) ⟨w.heap.size + 1, 2, none⟩ _ = Wf at z1 z3 hORf ⊢
        have y0 := z1.cell 0 rfl
        have y1 := z1.cell 1 rfl
        have y2 := z1.cell 2 rfl
        refine bodyPost_ret (v := .agg #[.int .i64 p.vars, .slice va OK.length vc, .slice ga gm gc]) (by simp [results, Try.results13, go_sem, y0, y1, y2]) rfl ?_
        show ProgQ1 (fewF p) w _ _
        rw [HFZ.out, HGT.out]
        exact ⟨_, _, rfl, HLO.out.rows hORf z3, IntsAt.below z3 HGI.out, z3⟩
    · obtain rfl : k = p.rows.length := by omega
      have HFW := HFF.out
      rw [(show min p.rows.length 20 = p.rows.length by omega)] at HFW
      have HFZ := hide HFW
      clear HFW
      obtain ⟨va, vc, rfl⟩ := own_form hOR hlow.1
      have HLO := hide hlow
      clear hlow
      generalize cutUp p.rows (p.rows.length) = OK at *
      have o0 := hO.cell 0 rfl
      have o1 := hO.cell 1 rfl
      have o2 := hO.cell 2 rfl
      have t0 := hR.cell 0 rfl
      have t1 := hR.cell 1 rfl
      have t2 := hR.cell 2 rfl
      have f0 := hR.frozen 0
      have f1 := hR.frozen 1
      have f2 := hR.frozen 2
      go_wp2_with fail
      have hORf := ((hOR.setO (j := 0) hR (by decide) (.int .i64 p.vars)).setO (j := 1) (hR.set 0 _) (by decide) (.slice va OK.length vc)).setO (j := 2) ((hR.set 0 _).set 1 _) (by decide) (.slice ga gm gc)
      obtain ⟨z1, z2, -⟩ := set3 hR (.int .i64 p.vars) (.slice va OK.length vc) (.slice ga gm gc)
      have z3 := z2 _ _ hbr (by omega)
      generalize World.setCell (World.setCell _ _ _) ⟨w.heap.size + 1, 2, none⟩ _ = Wf at z1 z3 hORf ⊢
      have y0 := z1.cell 0 rfl
      have y1 := z1.cell 1 rfl
      have y2 := z1.cell 2 rfl
      refine bodyPost_ret (v := .agg #[.int .i64 p.vars, .slice va OK.length vc, .slice ga gm gc]) (by simp [results, Try.results13, go_sem, y0, y1, y2]) rfl ?_
      show ProgQ1 (fewF p) w _ _
      rw [HFZ.out, HGT.out]
      exact ⟨_, _, rfl, HLO.out.rows hORf z3, IntsAt.below z3 HGI.out, z3⟩
end Go.Proofs.Ytcaklldmcbpbfaa
