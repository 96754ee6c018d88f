/- The walk of New. Conditions: none but the size's bounds. -/
import Derived.Test.YtednelejpkchbaaDkB
import Derived.Test.YtednelejpkchbaaRegM
import Derived.Deep.OwnRows
import Derived.Test.YtednelejpkchbaaBlkB
namespace Go.Proofs.Ytednelejpkchbaa
open Go.RowKit

def disk0 (n : Nat) : DiskD := ⟨false, 0, List.replicate n 0, List.replicate n 0, []⟩
theorem infoByteC : (Try.prog.info? 5).map (fun i => (i.zero, i.size, i.bytes)) = some (some (.int .u8 0), 1, 1) := by kernel_rfl
theorem mkBytes (n : Nat) (hn : n ≤ 281474976710656) (w : World) : (Instr.makeSlice 40 (.int .i64 (n : Int)) (.int .i64 (n : Int))).run Try.prog w = .ok (.slice (some ⟨w.heap.size, 0, none⟩) n n) (w.alloc (.cells (bytesV (List.replicate n 0)).toArray 5)) := by
  have e : (bytesV (List.replicate n 0)).toArray = madeCells #[Value.int .u8 0] n := by
    have h := toList_madeCells_one (.int .u8 0) n
    simp only [bytesV, List.map_replicate]
    rw [show byteV 0 = Value.int .u8 0 from rfl, ← h]
  rw [e]
  exact run_make_row' (P := Try.prog) 40 5 (.int .u8 0) 1 Try.underlying40 infoByteC rfl .i64 .i64 n (by omega) (by omega) w
/-- a new disk, or none -/
def NewQ (n : Int) (w : World) (e : Ending) (w' : World) : Prop :=
  (¬ (1 ≤ n ∧ n ≤ 4194304) ∧ e = .returned (.tuple #[.pointer none, .int .i64 2]) ∧ w = w') ∨
  (∃ (m D U V : Nat), n = m ∧ 1 ≤ m ∧ m ≤ 4194304 ∧ e = .returned (.tuple #[.pointer (some ⟨D, 0, none⟩), .int .i64 0]) ∧ w.heap.size ≤ D ∧ w.heap.size ≤ U ∧ w.heap.size ≤ V ∧ DiskAt w' D U V (.slice none 0 0) (disk0 m) ∧ Below w.heap.size w w')
def ZeroAt (n B : Nat) (W : World) (v : Value) : Prop := ∃ b : Nat, B ≤ b ∧ v = .slice (some ⟨b, 0, none⟩) n n ∧ Blk W b (bytesV (List.replicate n 0)) 5
theorem ZeroAt.later {n B : Nat} {W W' : World} {v : Value} (h : ZeroAt n B W v) (hb : Below W.heap.size W W') : ZeroAt n B W' v := let ⟨b, h0, h1, h2⟩ := h; ⟨b, h0, h1, h2.later hb⟩
theorem ZeroAt.ne {n B : Nat} {W : World} {v : Value} (h : ZeroAt n B W v) : v ≠ .slice (some ⟨W.heap.size, 0, none⟩) n n := by
  obtain ⟨b, -, rfl, h2⟩ := h
  have := h2.lt
  intro e
  have : b = W.heap.size := by injection e with e; injection e with e; injection e
  omega
set_option maxRecDepth 100000 in
set_option maxHeartbeats 1000000 in
theorem new_any (n : Int) (w : World) : Calls Try.prog 13 #[.int .i64 n] w (NewQ n w) := by
  by_cases h1 : n < 1
  · have HN : Hid (¬ (1 ≤ n ∧ n ≤ 4194304)) := hide (by omega)
    go_enter Try.func13, Try.ntmps13
    go_wp2
    go_ret2
    exact .inl ⟨HN.out, rfl, rfl⟩
  by_cases h2 : 4194304 < n
  · have HN : Hid (¬ (1 ≤ n ∧ n ≤ 4194304)) := hide (by omega)
    go_enter Try.func13, Try.ntmps13
    go_wp2
    go_ret2
    exact .inl ⟨HN.out, rfl, rfl⟩
  obtain ⟨m, rfl⟩ : ∃ m : Nat, n = m := ⟨n.toNat, by omega⟩
  have e1 : decide ((m : Int) < 1) = false := decide_eq_false h1
  have e2 : decide (4194304 < (m : Int)) = false := decide_eq_false h2
  have hm1 : 1 ≤ m := by omega
  have hm2 : m ≤ 4194304 := by omega
  have hmk := @mkBytes m (by omega)
  clear h1 h2
  go_enter Try.func13, Try.ntmps13
  go_wp2_with fail
  refine wp_region_inv [some 10, some 11, some 12, some 13, some 14, some 15, some 2, some 3] (fun L vs W => match vs with | [x0, x1, x2, x3, x4, x5, x6, x7] => (Below w.heap.size w W) ∧ (L 0 = true → x0 = .int .i64 m) ∧ (L 1 = true → ZeroAt m w.heap.size W x1 ∧ (L 3 = true → x3 ≠ x1)) ∧ (L 2 = true → x2 = .int .i64 m) ∧ (L 3 = true → ZeroAt m w.heap.size W x3 ∧ True) ∧ (L 4 = true → L 1 = true ∧ L 3 = true ∧ x4 = .agg #[.bool false, .int .i64 0, x1, x3, .slice none 0 0]) ∧ (L 5 = true → L 1 = true ∧ L 3 = true ∧ L 4 = true ∧ ∃ D : Nat, w.heap.size ≤ D ∧ x5 = .pointer (some ⟨D, 0, none⟩) ∧ Blk W D [.bool false, .int .i64 0, x1, x3, .slice none 0 0] 65) ∧ (L 6 = true → L 5 = true ∧ x6 = x5) ∧ (L 7 = true → x7 = .int .i64 0) | _ => False) [_, _, _, _, _, _, _, _] (by kernel_rfl) (by kernel_rfl) rfl (by simp only [puts, Act.put, List.setIfInBounds_toArray, List.set_cons_zero, List.set_cons_succ] <;> rfl) ?_ ?_ ?_
  · exact ⟨(Below.refl _ _).drew, (fun h => by cases h), (fun h => by cases h), (fun h => by cases h), (fun h => by cases h), (fun h => by cases h), (fun h => by cases h), (fun h => by cases h), (fun h => by cases h)⟩
  · refine ⟨?_, ?_, ?_, ?_, ?_, ?_, ?_, ?_, trivial⟩
    · intro L vs W hlen hL hD hI K hK
      obtain ⟨x0, x1, x2, x3, x4, x5, x6, x7, rfl⟩ := len8 hlen
      have hG := hI.1
      replace hI := hI.2
      have f0 := hide hI.1
      replace hI := hI.2
      have f1 := hide hI.1
      replace hI := hI.2
      have f2 := hide hI.1
      replace hI := hI.2
      have f3 := hide hI.1
      replace hI := hI.2
      have f4 := hide hI.1
      replace hI := hI.2
      have f5 := hide hI.1
      replace hI := hI.2
      have f6 := hide hI.1
      replace hI := hI.2
      have f7 := hide hI
      clear hI
      try simp only [puts, Act.put, List.setIfInBounds_toArray, List.set_cons_zero, List.set_cons_succ]
      try go_simp
      exact hK.out _ _ _ (by simp only [puts, Act.put, List.setIfInBounds_toArray, List.set_cons_zero, List.set_cons_succ] <;> rfl) ⟨hG, (fun _ => rfl), (fun h => f1.out h), (fun h => f2.out h), (fun h => f3.out h), (fun h => f4.out h), (fun h => f5.out h), (fun h => f6.out h), (fun h => f7.out h)⟩
    · intro L vs W hlen hL hD hI K hK
      obtain ⟨x0, x1, x2, x3, x4, x5, x6, x7, rfl⟩ := len8 hlen
      have hG := hI.1
      replace hI := hI.2
      have f0 := hide hI.1
      replace hI := hI.2
      have f1 := hide hI.1
      replace hI := hI.2
      have f2 := hide hI.1
      replace hI := hI.2
      have f3 := hide hI.1
      replace hI := hI.2
      have f4 := hide hI.1
      replace hI := hI.2
      have f5 := hide hI.1
      replace hI := hI.2
      have f6 := hide hI.1
      replace hI := hI.2
      have f7 := hide hI
      clear hI
      obtain rfl := f0.out (hD.on 0 (by kernel_rfl))
      try simp only [puts, Act.put, List.setIfInBounds_toArray, List.set_cons_zero, List.set_cons_succ]
      try go_simp
      generalize hW' : World.alloc W _ = W'
      have hb : Below W.heap.size W W' := by rw [← hW']; exact bal W _
      exact hK.out _ _ _ (by simp only [puts, Act.put, List.setIfInBounds_toArray, List.set_cons_zero, List.set_cons_succ] <;> rfl) ⟨below2 hG hb, (fun h => f0.out h), (fun _ => ⟨⟨W.heap.size, hG.size, rfl, by rw [← hW']; exact Blk.newA W _ rfl⟩, fun h3 => (f3.out h3).1.ne⟩), (fun h => f2.out h), (fun h => (fun h => ⟨h.1.later hb, trivial⟩) (f3.out h)), (fun h => (fun h => absurd (h.1.symm.trans hL) (by decide)) (f4.out h)), (fun h => (fun h => absurd (h.1.symm.trans hL) (by decide)) (f5.out h)), (fun h => (fun h => h) (f6.out h)), (fun h => f7.out h)⟩
    · intro L vs W hlen hL hD hI K hK
      obtain ⟨x0, x1, x2, x3, x4, x5, x6, x7, rfl⟩ := len8 hlen
      have hG := hI.1
      replace hI := hI.2
      have f0 := hide hI.1
      replace hI := hI.2
      have f1 := hide hI.1
      replace hI := hI.2
      have f2 := hide hI.1
      replace hI := hI.2
      have f3 := hide hI.1
      replace hI := hI.2
      have f4 := hide hI.1
      replace hI := hI.2
      have f5 := hide hI.1
      replace hI := hI.2
      have f6 := hide hI.1
      replace hI := hI.2
      have f7 := hide hI
      clear hI
      try simp only [puts, Act.put, List.setIfInBounds_toArray, List.set_cons_zero, List.set_cons_succ]
      try go_simp
      exact hK.out _ _ _ (by simp only [puts, Act.put, List.setIfInBounds_toArray, List.set_cons_zero, List.set_cons_succ] <;> rfl) ⟨hG, (fun h => f0.out h), (fun h => f1.out h), (fun _ => rfl), (fun h => f3.out h), (fun h => f4.out h), (fun h => f5.out h), (fun h => f6.out h), (fun h => f7.out h)⟩
    · intro L vs W hlen hL hD hI K hK
      obtain ⟨x0, x1, x2, x3, x4, x5, x6, x7, rfl⟩ := len8 hlen
      have hG := hI.1
      replace hI := hI.2
      have f0 := hide hI.1
      replace hI := hI.2
      have f1 := hide hI.1
      replace hI := hI.2
      have f2 := hide hI.1
      replace hI := hI.2
      have f3 := hide hI.1
      replace hI := hI.2
      have f4 := hide hI.1
      replace hI := hI.2
      have f5 := hide hI.1
      replace hI := hI.2
      have f6 := hide hI.1
      replace hI := hI.2
      have f7 := hide hI
      clear hI
      obtain rfl := f2.out (hD.on 2 (by kernel_rfl))
      try simp only [puts, Act.put, List.setIfInBounds_toArray, List.set_cons_zero, List.set_cons_succ]
      try go_simp
      generalize hW' : World.alloc W _ = W'
      have hb : Below W.heap.size W W' := by rw [← hW']; exact bal W _
      exact hK.out _ _ _ (by simp only [puts, Act.put, List.setIfInBounds_toArray, List.set_cons_zero, List.set_cons_succ] <;> rfl) ⟨below2 hG hb, (fun h => f0.out h), (fun h => (fun h => ⟨h.1.later hb, fun _ => h.1.ne.symm⟩) (f1.out h)), (fun h => f2.out h), (fun _ => ⟨⟨W.heap.size, hG.size, rfl, by rw [← hW']; exact Blk.newA W _ rfl⟩, trivial⟩), (fun h => (fun h => absurd (h.2.1.symm.trans hL) (by decide)) (f4.out h)), (fun h => (fun h => absurd (h.2.1.symm.trans hL) (by decide)) (f5.out h)), (fun h => (fun h => h) (f6.out h)), (fun h => f7.out h)⟩
    · intro L vs W hlen hL hD hI K hK
      obtain ⟨x0, x1, x2, x3, x4, x5, x6, x7, rfl⟩ := len8 hlen
      have hG := hI.1
      replace hI := hI.2
      have f0 := hide hI.1
      replace hI := hI.2
      have f1 := hide hI.1
      replace hI := hI.2
      have f2 := hide hI.1
      replace hI := hI.2
      have f3 := hide hI.1
      replace hI := hI.2
      have f4 := hide hI.1
      replace hI := hI.2
      have f5 := hide hI.1
      replace hI := hI.2
      have f6 := hide hI.1
      replace hI := hI.2
      have f7 := hide hI
      clear hI
      have g1 := f1.out (hD.on 1 (by kernel_rfl))
      have g3 := f3.out (hD.on 3 (by kernel_rfl))
      try simp only [puts, Act.put, List.setIfInBounds_toArray, List.set_cons_zero, List.set_cons_succ]
      obtain ⟨⟨b1, hb1, rfl, hB1⟩, hne⟩ := g1
      obtain ⟨⟨b3, hb3, rfl, hB3⟩, -⟩ := g3
      go_simp
      exact hK.out _ _ _ (by simp only [puts, Act.put, List.setIfInBounds_toArray, List.set_cons_zero, List.set_cons_succ] <;> rfl) ⟨hG, (fun h => f0.out h), (fun h => f1.out h), (fun h => f2.out h), (fun h => f3.out h), (fun _ => ⟨hD.on 1 (by kernel_rfl), hD.on 3 (by kernel_rfl), rfl⟩), (fun h => (fun h => absurd (h.2.2.1.symm.trans hL) (by decide)) (f5.out h)), (fun h => f6.out h), (fun h => f7.out h)⟩
    · intro L vs W hlen hL hD hI K hK
      obtain ⟨x0, x1, x2, x3, x4, x5, x6, x7, rfl⟩ := len8 hlen
      have hG := hI.1
      replace hI := hI.2
      have f0 := hide hI.1
      replace hI := hI.2
      have f1 := hide hI.1
      replace hI := hI.2
      have f2 := hide hI.1
      replace hI := hI.2
      have f3 := hide hI.1
      replace hI := hI.2
      have f4 := hide hI.1
      replace hI := hI.2
      have f5 := hide hI.1
      replace hI := hI.2
      have f6 := hide hI.1
      replace hI := hI.2
      have f7 := hide hI
      clear hI
      have g4 := f4.out (hD.on 4 (by kernel_rfl))
      try simp only [puts, Act.put, List.setIfInBounds_toArray, List.set_cons_zero, List.set_cons_succ]
      obtain ⟨d1, d3, rfl⟩ := g4
      obtain ⟨⟨b1, hb1, rfl, hB1⟩, hne⟩ := f1.out d1
      obtain ⟨⟨b3, hb3, rfl, hB3⟩, -⟩ := f3.out d3
      go_simp
      generalize hW' : World.alloc W _ = W'
      have hb : Below W.heap.size W W' := by rw [← hW']; exact bal W _
      exact hK.out _ _ _ (by simp only [puts, Act.put, List.setIfInBounds_toArray, List.set_cons_zero, List.set_cons_succ] <;> rfl) ⟨below2 hG hb, (fun h => f0.out h), (fun h => (fun h => ⟨h.1.later hb, h.2⟩) (f1.out h)), (fun h => f2.out h), (fun h => (fun h => ⟨h.1.later hb, trivial⟩) (f3.out h)), (fun h => (fun h => h) (f4.out h)), (fun _ => ⟨d1, d3, hD.on 4 (by kernel_rfl), W.heap.size, hG.size, rfl, by rw [← hW']; exact Blk.newA W _ rfl⟩), (fun h => (fun h => absurd (h.1.symm.trans hL) (by decide)) (f6.out h)), (fun h => f7.out h)⟩
    · intro L vs W hlen hL hD hI K hK
      obtain ⟨x0, x1, x2, x3, x4, x5, x6, x7, rfl⟩ := len8 hlen
      have hG := hI.1
      replace hI := hI.2
      have f0 := hide hI.1
      replace hI := hI.2
      have f1 := hide hI.1
      replace hI := hI.2
      have f2 := hide hI.1
      replace hI := hI.2
      have f3 := hide hI.1
      replace hI := hI.2
      have f4 := hide hI.1
      replace hI := hI.2
      have f5 := hide hI.1
      replace hI := hI.2
      have f6 := hide hI.1
      replace hI := hI.2
      have f7 := hide hI
      clear hI
      have g5 := f5.out (hD.on 5 (by kernel_rfl))
      try simp only [puts, Act.put, List.setIfInBounds_toArray, List.set_cons_zero, List.set_cons_succ]
      try go_simp
      exact hK.out _ _ _ (by simp only [puts, Act.put, List.setIfInBounds_toArray, List.set_cons_zero, List.set_cons_succ] <;> rfl) ⟨hG, (fun h => f0.out h), (fun h => f1.out h), (fun h => f2.out h), (fun h => f3.out h), (fun h => f4.out h), (fun h => f5.out h), (fun _ => ⟨hD.on 5 (by kernel_rfl), rfl⟩), (fun h => f7.out h)⟩
    · intro L vs W hlen hL hD hI K hK
      obtain ⟨x0, x1, x2, x3, x4, x5, x6, x7, rfl⟩ := len8 hlen
      have hG := hI.1
      replace hI := hI.2
      have f0 := hide hI.1
      replace hI := hI.2
      have f1 := hide hI.1
      replace hI := hI.2
      have f2 := hide hI.1
      replace hI := hI.2
      have f3 := hide hI.1
      replace hI := hI.2
      have f4 := hide hI.1
      replace hI := hI.2
      have f5 := hide hI.1
      replace hI := hI.2
      have f6 := hide hI.1
      replace hI := hI.2
      have f7 := hide hI
      clear hI
      try simp only [puts, Act.put, List.setIfInBounds_toArray, List.set_cons_zero, List.set_cons_succ]
      try go_simp
      exact hK.out _ _ _ (by simp only [puts, Act.put, List.setIfInBounds_toArray, List.set_cons_zero, List.set_cons_succ] <;> rfl) ⟨hG, (fun h => f0.out h), (fun h => f1.out h), (fun h => f2.out h), (fun h => f3.out h), (fun h => f4.out h), (fun h => f5.out h), (fun h => f6.out h), (fun _ => rfl)⟩
  intro L vs W hlen hall hI
  obtain ⟨x0, x1, x2, x3, x4, x5, x6, x7, rfl⟩ := len8 hlen
  have hG := hI.1
  replace hI := hI.2
  have f0 := hide hI.1
  replace hI := hI.2
  have f1 := hide hI.1
  replace hI := hI.2
  have f2 := hide hI.1
  replace hI := hI.2
  have f3 := hide hI.1
  replace hI := hI.2
  have f4 := hide hI.1
  replace hI := hI.2
  have f5 := hide hI.1
  replace hI := hI.2
  have f6 := hide hI.1
  replace hI := hI.2
  have f7 := hide hI
  clear hI
  obtain rfl := f0.out (hall 0 (by decide))
  have g1 := f1.out (hall 1 (by decide))
  obtain rfl := f2.out (hall 2 (by decide))
  have g3 := f3.out (hall 3 (by decide))
  have g4 := f4.out (hall 4 (by decide))
  have g5 := f5.out (hall 5 (by decide))
  have g6 := f6.out (hall 6 (by decide))
  obtain rfl := f7.out (hall 7 (by decide))
  have hal := hide hall
  clear hall f0 f1 f2 f3 f4 f5 f6 f7
  try simp only [puts, Act.put, List.setIfInBounds_toArray, List.set_cons_zero, List.set_cons_succ]
  obtain ⟨W2, rfl⟩ : ∃ W', W' = W := ⟨_, rfl⟩
  obtain ⟨-, rfl⟩ := g6
  obtain ⟨-, -, -, D, hDB, rfl, hDD⟩ := g5
  obtain ⟨⟨U, hUB, rfl, hUU⟩, hne⟩ := g1
  obtain ⟨⟨V, hVB, rfl, hVV⟩, -⟩ := g3
  have hUV : U ≠ V := by
    rintro rfl
    exact hne (hal.out 3 (by decide)) rfl
  clear g4 hne
  go_wp2_with fail
  go_ret2
  exact .inr ⟨m, D, U, V, rfl, hm1, hm2, rfl, hDB, hUB, hVB, ⟨by simpa [diskCells, disk0] using hDD, hUU, hVV, OwnR.nil _ _ _ _, hUV⟩, hG⟩
end Go.Proofs.Ytednelejpkchbaa
