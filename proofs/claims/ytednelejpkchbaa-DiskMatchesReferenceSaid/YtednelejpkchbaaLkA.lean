/- The walk of sane of the laws on disks. No condition. -/
import Derived.Test.YtednelejpkchbaaDkC
import Derived.Test.YtednelejpkchbaaDkJ
namespace Go.Proofs.Ytednelejpkchbaa
open Go.RowKit

theorem ord_ex : ordF 2 [1, 0] = [0, 1] := by
  have e : sortF [1, 0] = [0, 1] := by simp [sortF, List.mergeSort, List.MergeSort.Internal.splitInTwo, List.splitAt, List.splitAt.go]
  unfold ordF; rw [e]; decide +kernel
def s2 : DiskD := ⟨false, 0, [0, 0, 0, 0], [97, 120, 121, 0], [(0, [97, 98]), (1, [120, 121])]⟩
theorem crash_ex : crashF s2 [1, 0] 1 = [97, 120, 0, 0] := by
  unfold crashF; rw [show ordF s2.pend.length [1, 0] = [0, 1] from ord_ex]; decide +kernel
def d3 : DiskD := ⟨false, 0, [97, 120, 0, 0], [97, 120, 0, 0], []⟩
def s0 : DiskD := disk0 4
def s1 : DiskD := ⟨false, 0, [0, 0, 0, 0], [97, 98, 0, 0], [(0, [97, 98])]⟩
def s4 : DiskD := ⟨false, 1, [97, 120, 0, 0], [97, 120, 0, 0], []⟩
def s5 : DiskD := ⟨true, 0, [97, 120, 0, 0], [97, 120, 0, 113], [(3, [113])]⟩
theorem t1 : usedD ⟨s0.off, s0.left, s0.dur, splice s0.vis 0 (ByteArray.mk #[97, 98]).data.toList, s0.pend ++ [(((0 : Nat) : Int), (ByteArray.mk #[97, 98]).data.toList)]⟩ = s1 := by rfl
theorem t2 : usedD ⟨s1.off, s1.left, s1.dur, splice s1.vis 1 (ByteArray.mk #[120, 121]).data.toList, s1.pend ++ [(((1 : Nat) : Int), (ByteArray.mk #[120, 121]).data.toList)]⟩ = s2 := by rfl
theorem t5 : usedD ⟨s4.off, s4.left, s4.dur, splice s4.vis 3 (ByteArray.mk #[113]).data.toList, s4.pend ++ [(((3 : Nat) : Int), (ByteArray.mk #[113]).data.toList)]⟩ = s5 := by rfl
/-- what lies above block B is all that a call has turned -/
theorem low {B D U V : Nat} {pv : Value} {w w' w0 : World} (h : Eff (DSet D U V pv) w w') (h0 : Below B w0 w) (hB : B ≤ w.heap.size) (hD : B ≤ D) (hU : B ≤ U) (hV : B ≤ V) (hp : ∀ g, pv.ownBlock = some g → B ≤ g) : Below B w0 w' :=
  h0.trans (h.below hB fun k hk => by
    rcases hk with rfl | rfl | rfl | hk
    · exact hD
    · exact hU
    · exact hV
    · exact hp k hk.symm)
set_option maxRecDepth 20000 in
set_option maxHeartbeats 1000000 in
theorem sane_any (w : World) : Calls Try.prog 12 #[] w (Ret (.bool true) w) := by
  go_enter Try.func12, Try.ntmps12
  go_wp2_with fail
  refine (new_any 4 w).mono ?_
  rintro e w1 (⟨hn, -, -⟩ | ⟨m, D, U, V, hm, -, -, rfl, hDB, hUB, hVB, hA1, hL1⟩)
  · exact absurd ⟨by omega, by omega⟩ hn
  obtain rfl : m = 4 := by omega
  go_wp2_with fail
  refine (new_any 0 w1).mono ?_
  rintro e w2 (⟨-, rfl, hw2⟩ | ⟨m, D', U', V', hm, h1, -⟩)
  case inr => omega
  obtain rfl := hw2
  have hA1' : DiskAt w1 D U V (.slice none 0 0) s0 := hA1
  have hs1 := hL1.size
  clear hA1 hm
  go_wp2_with fail
  refine (write_in D U V _ s0 0 (ByteArray.mk #[97, 98]) w1 hA1' rfl (by decide) rfl (by decide) (by decide) (by decide) (by decide)).mono ?_
  rintro e w3 ⟨rfl, p3, hA3, hE3, ho3⟩
  rw [t1] at hA3
  have hq3 : ∀ g, p3.ownBlock = some g → w.heap.size ≤ g := fun g hg => ho3.elim (fun e => by rw [e] at hg; cases hg) (fun h => Nat.le_trans hs1 (h g hg))
  have hL3 := low hE3 hL1 hs1 hDB hUB hVB (fun g hg => by cases hg)
  go_wp2_with fail
  refine (write_in D U V _ s1 1 (ByteArray.mk #[120, 121]) w3 hA3 rfl (by decide) rfl (by decide) (by decide) (by decide) (by decide)).mono ?_
  rintro e w4 ⟨rfl, p4, hA4, hE4, ho4⟩
  rw [t2] at hA4
  have hq4 : ∀ g, p4.ownBlock = some g → w.heap.size ≤ g := fun g hg => ho4.elim (fun e => hq3 g (by rw [← e]; exact hg)) (fun h => Nat.le_trans hL3.size (h g hg))
  have hL4 := low hE4 hL3 hL3.size hDB hUB hVB hq3
  go_wp2_with fail
  refine (write_out D U V _ s2 3 (ByteArray.mk #[122, 122]) w4 hA4 rfl (by decide) (by decide) (by decide) (by rfl)).mono ?_
  rintro e w5 ⟨rfl, p5, hA5, hE5, ho5⟩
  have hq5 : ∀ g, p5.ownBlock = some g → w.heap.size ≤ g := fun g hg => ho5.elim (fun e => hq4 g (by rw [← e]; exact hg)) (fun h => Nat.le_trans hL4.size (h g hg))
  have hL5 := low hE5 hL4 hL4.size hDB hUB hVB hq4
  go_wp2_with fail
  have hr : Calls Try.prog 14 #[.pointer (some ⟨D, 0, none⟩), .int .i64 0, .int .i64 4] w5 (StrQ ⟨#[97, 120, 121, 0]⟩ 0 w5) := read_in D U V _ s2 0 4 w5 hA5 rfl (by decide) rfl (by decide)
  refine hr.mono ?_
  rintro e w6 ⟨rfl, hw6⟩
  obtain rfl := hw6
  obtain ⟨pa, pc, rfl⟩ : ∃ a c, p5 = .slice a 2 c := by
    rcases hA5.hP.form with ⟨-, e⟩ | ⟨g, c, cur, e, -⟩
    · simp [s2] at e
    · exact ⟨_, c, e⟩
  go_wp2_with fail
  refine (pending_any D w5 pa 2 pc (hA5.hD.cell 4 rfl)).mono ?_
  rintro e w6 ⟨rfl, hw6⟩
  obtain rfl := hw6
  clear hr hA1' hA3 hA4
  go_wp2_with fail
  generalize hW : World.alloc w5 _ = X
  have hb : Below w5.heap.size w5 X := by rw [← hW]; exact bal w5 _
  have bK : Blk X w5.heap.size ([1, 0].map (Value.int .i64)) 3 := by rw [← hW]; exact Blk.newA w5 _ rfl
  have hKI : IntsAt X (.slice (some ⟨w5.heap.size, 0, none⟩) 2 2) [1, 0] := ⟨_, 2, rfl, by simp, by omega, fun k hk => ⟨w5.heap.size, 0, rfl, by
    match k, hk with
    | 0, _ => exact bK.cell 0 rfl
    | 1, _ => exact bK.cell 1 rfl⟩⟩
  have hA6 := hA5.later hb
  have hL6 : Below w.heap.size w X := hL5.trans (hb.mono hL5.size)
  have hcr := crash_any D U V _ s2 [1, 0] _ 1 X hA6 (by decide) rfl (by decide) (by intro p hp; simp [s2] at hp; rcases hp with rfl | rfl <;> decide) hKI (by decide) (by decide)
  rw [crash_ex] at hcr
  clear hW
  refine hcr.mono ?_
  rintro e w7 ⟨rfl, p7, hA7, hE7, ho7⟩
  have hq7 : ∀ g, p7.ownBlock = some g → w.heap.size ≤ g := fun g hg => ho7.elim (fun e => hq5 g (by rw [← e]; exact hg)) (fun h => Nat.le_trans hL6.size (h g hg))
  have hL7 := low hE7 hL6 hL6.size hDB hUB hVB hq5
  have hA7' : DiskAt w7 D U V p7 d3 := hA7
  go_wp2_with fail
  have hr : Calls Try.prog 14 #[.pointer (some ⟨D, 0, none⟩), .int .i64 0, .int .i64 4] w7 (StrQ ⟨#[97, 120, 0, 0]⟩ 0 w7) := read_in D U V _ d3 0 4 w7 hA7' rfl (by decide) rfl (by decide)
  refine hr.mono ?_
  rintro e w8 ⟨rfl, hw8⟩
  obtain rfl := hw8
  clear hr hcr hA7 hA6 hA5
  go_wp2_with fail
  refine (cut_on D U V _ d3 1 w7 hA7' rfl (by decide)).mono ?_
  rintro e w8 ⟨rfl, p8, hA8, hE8, ho8⟩
  have hA8' : DiskAt w8 D U V p8 s4 := hA8
  have hq8 : ∀ g, p8.ownBlock = some g → w.heap.size ≤ g := fun g hg => ho8.elim (fun e => hq7 g (by rw [← e]; exact hg)) (fun h => Nat.le_trans hL7.size (h g hg))
  have hL8 := low hE8 hL7 hL7.size hDB hUB hVB hq7
  go_wp2_with fail
  refine (write_in D U V _ s4 3 (ByteArray.mk #[113]) w8 hA8' rfl (by decide) rfl (by decide) (by decide) (by decide) (by decide)).mono ?_
  rintro e w9 ⟨rfl, p9, hA9, hE9, ho9⟩
  rw [t5] at hA9
  have hq9 : ∀ g, p9.ownBlock = some g → w.heap.size ≤ g := fun g hg => ho9.elim (fun e => hq8 g (by rw [← e]; exact hg)) (fun h => Nat.le_trans hL8.size (h g hg))
  have hL9 := low hE9 hL8 hL8.size hDB hUB hVB hq8
  go_wp2_with fail
  refine (sync_off D U V _ s5 w9 hA9 rfl).mono ?_
  rintro e w10 ⟨rfl, p10, hA10, hE10, ho10⟩
  have hL10 := low hE10 hL9 hL9.size hDB hUB hVB hq9
  have z2 : w10.cell? ⟨D, 2, none⟩ = some (.slice (some ⟨U, 0, none⟩) 4 4) := hA10.hD.cell 2 rfl
  go_wp2_with (go_at_call 16; refine (size_any D w10 _ 4 _ z2).mono ?_; rintro e w11 ⟨rfl, rfl⟩)
  go_ret
  exact ⟨rfl, hL10⟩
end Go.Proofs.Ytednelejpkchbaa
