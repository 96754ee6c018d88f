/- A disk in memory; walks of its small methods. Conditions: how the disk lies in memory. -/
import Derived.Test.YtednelejpkchbaaDkA
import Derived.Test.YtednelejpkchbaaOwnR
namespace Go.Proofs.Ytednelejpkchbaa
open Go.RowKit

def pendCells (p : Int × List UInt8) : List Value := [.int .i64 p.1, .string ⟨p.2.toArray⟩]
abbrev diskCells (d : DiskD) (U V : Nat) (pv : Value) : List Value := [.bool d.off, .int .i64 d.left, .slice (some ⟨U, 0, none⟩) d.dur.length d.dur.length, .slice (some ⟨V, 0, none⟩) d.vis.length d.vis.length, pv]
structure DiskAt (w : World) (D U V : Nat) (pv : Value) (d : DiskD) : Prop where
  hD : Blk w D (diskCells d U V pv) 65
  hU : Blk w U (bytesV d.dur) 5
  hV : Blk w V (bytesV d.vis) 5
  hP : OwnR w 0 69 2 pv (d.pend.map pendCells)
  hUV : U ≠ V
/-- the call returns nothing and turns the disk's own cells -/
def CellsQ (D : Nat) (cs : List Value) (w : World) (e : Ending) (w' : World) : Prop := e = .returned (.tuple #[]) ∧ Blk w' D cs 65 ∧ Eff (· = D) w w'
theorem used_any (D U V : Nat) (pv : Value) (d : DiskD) (w : World) (h : Blk w D (diskCells d U V pv) 65) (h0 : 0 ≤ d.left) (h1 : d.left ≤ 9223372036854775807) :
    Calls Try.prog 36 #[.pointer (some ⟨D, 0, none⟩)] w (CellsQ D (diskCells (usedD d) U V pv) w) := by
  obtain ⟨o, l, du, vi, pe⟩ := d
  have c1 : w.cell? ⟨D, 1, none⟩ = some (.int .i64 l) := h.cell 1 rfl
  have f0 := h.frozen 0
  have f1 := h.frozen 1
  have k0 : w.cell? ⟨D, 0, none⟩ = some (.bool o) := h.cell 0 rfl
  have HU : Hid (usedD ⟨o, l, du, vi, pe⟩ = if l = 0 then ⟨o, l, du, vi, pe⟩ else ⟨decide (l - 1 = 0), l - 1, du, vi, pe⟩) := hide rfl
  have h0' : 0 ≤ l := h0
  have h1' : l ≤ 9223372036854775807 := h1
  clear h0 h1
  by_cases hl : l = 0
  · have HL := hide hl
    have e : (l == 0) = true := by simpa using hl
    clear hl
    go_enter Try.func36, Try.ntmps36
    go_wp2
    refine bodyPost_ret (results_none rfl _ _ _) rfl ?_
    refine ⟨rfl, ?_, Eff.refl _ _⟩
    rw [HU.out, if_pos HL.out]; exact h
  · have e : (l == 0) = false := by simpa using hl
    have HL := hide hl
    by_cases hl1 : l - 1 = 0
    · have HL1 := hide hl1
      have e1 : (l - 1 == 0) = true := by simpa using hl1
      clear hl hl1
      go_enter Try.func36, Try.ntmps36
      go_wp2
      go_end0
      refine ⟨rfl, ?_, (Eff.setCell _ _ _ _).trans (Eff.setCell _ _ _ _)⟩
      rw [HU.out, if_neg HL.out, decide_eq_true HL1.out]
      exact (h.set 1 (.int .i64 (l - 1))).set 0 (.bool true)
    · have HL1 := hide hl1
      have e1 : (l - 1 == 0) = false := by simpa using hl1
      clear hl hl1
      go_enter Try.func36, Try.ntmps36
      go_wp2
      go_end0
      refine ⟨rfl, ?_, (Eff.setCell _ _ _ _).trans (Eff.setCell _ _ _ _)⟩
      rw [HU.out, if_neg HL.out, decide_eq_false HL1.out]
      exact (h.set 1 (.int .i64 (l - 1))).set 0 (.bool false)
/-- the call returns a number and turns nothing -/
def NumQ (n : Int) (w : World) (e : Ending) (w' : World) : Prop := e = .returned (.int .i64 n) ∧ w = w'
def BoolQ (b : Bool) (w : World) (e : Ending) (w' : World) : Prop := e = .returned (.bool b) ∧ w = w'
theorem check_nil (w : World) : Calls Try.prog 28 #[.pointer none] w (NumQ 1 w) := by
  go_enter Try.func28, Try.ntmps28
  go_wp2
  go_ret
  exact ⟨rfl, rfl⟩
theorem check_any (D : Nat) (w : World) (o : Bool) (h : w.cell? ⟨D, 0, none⟩ = some (.bool o)) :
    Calls Try.prog 28 #[.pointer (some ⟨D, 0, none⟩)] w (NumQ (if o then 361 else 0) w) := by
  cases o
  · go_enter Try.func28, Try.ntmps28
    go_wp2
    go_ret
    exact ⟨rfl, rfl⟩
  · go_enter Try.func28, Try.ntmps28
    go_wp2
    go_ret
    exact ⟨rfl, rfl⟩
theorem inside_any (D : Nat) (w : World) (off n : Int) (p : Option Addr) (m c : Nat) (h : w.cell? ⟨D, 2, none⟩ = some (.slice p m c)) (hm : m ≤ 4194304) (h1 : -9223372036854775808 ≤ off ∧ off ≤ 9223372036854775807) :
    Calls Try.prog 29 #[.pointer (some ⟨D, 0, none⟩), .int .i64 off, .int .i64 n] w (BoolQ (insideB m off n) w) := by
  have HF : Hid (insideB m off n = (decide (0 ≤ off) && decide (0 ≤ n) && decide (off ≤ m) && decide (n ≤ m - off))) := hide rfl
  obtain ⟨h2, h3⟩ := h1
  by_cases g1 : 0 ≤ off
  · by_cases g2 : 0 ≤ n
    · by_cases g3 : off ≤ m
      · by_cases g4 : n ≤ m - off
        · skip
          go_enter Try.func29, Try.ntmps29
          go_wp2
          go_ret
          exact ⟨ret_bool (by rw [HF.out]; simp; omega), rfl⟩
        · skip
          go_enter Try.func29, Try.ntmps29
          go_wp2
          go_ret
          exact ⟨ret_bool (by rw [HF.out]; simp; omega), rfl⟩
      · skip
        go_enter Try.func29, Try.ntmps29
        go_wp2
        go_ret
        exact ⟨ret_bool (by rw [HF.out]; simp; omega), rfl⟩
    · skip
      go_enter Try.func29, Try.ntmps29
      go_wp2
      go_ret
      exact ⟨ret_bool (by rw [HF.out]; simp; omega), rfl⟩
  · skip
    go_enter Try.func29, Try.ntmps29
    go_wp2
    go_ret
    exact ⟨ret_bool (by rw [HF.out]; simp; omega), rfl⟩
theorem pending_nil (w : World) : Calls Try.prog 17 #[.pointer none] w (NumQ 0 w) := by
  go_enter Try.func17, Try.ntmps17
  go_wp2
  go_ret
  exact ⟨rfl, rfl⟩
theorem size_nil (w : World) : Calls Try.prog 16 #[.pointer none] w (NumQ 0 w) := by
  go_enter Try.func16, Try.ntmps16
  go_wp2
  go_ret
  exact ⟨rfl, rfl⟩
theorem pending_any (D : Nat) (w : World) (p : Option Addr) (m c : Nat) (h : w.cell? ⟨D, 4, none⟩ = some (.slice p m c)) :
    Calls Try.prog 17 #[.pointer (some ⟨D, 0, none⟩)] w (NumQ m w) := by
  go_enter Try.func17, Try.ntmps17
  go_wp2
  go_ret
  exact ⟨rfl, rfl⟩
theorem size_any (D : Nat) (w : World) (p : Option Addr) (m c : Nat) (h : w.cell? ⟨D, 2, none⟩ = some (.slice p m c)) :
    Calls Try.prog 16 #[.pointer (some ⟨D, 0, none⟩)] w (NumQ m w) := by
  go_enter Try.func16, Try.ntmps16
  go_wp2
  go_ret
  exact ⟨rfl, rfl⟩
end Go.Proofs.Ytednelejpkchbaa
