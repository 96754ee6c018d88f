/- The walk of Read. Conditions: how the disk lies in memory; sizes. -/
import Derived.Test.YtednelejpkchbaaDkH
import Derived.Laws.IdiomStrings
namespace Go.Proofs.Ytednelejpkchbaa
open Go.RowKit

theorem read_off (D U V : Nat) (pv : Value) (d : DiskD) (off n : Int) (w : World) (h : DiskAt w D U V pv d) (hoff : d.off = true) : Calls Try.prog 14 #[.pointer (some ⟨D, 0, none⟩), .int .i64 off, .int .i64 n] w (StrQ ⟨#[]⟩ 361 w) := by
  obtain ⟨o, le, du, vi, pe⟩ := d
  obtain ⟨hD, hU, hV, hP, hUV⟩ := id h
  have c0 : w.cell? ⟨D, 0, none⟩ = some (.bool o) := hD.cell 0 rfl
  have c2 : w.cell? ⟨D, 2, none⟩ = some (.slice (some ⟨U, 0, none⟩) du.length du.length) := hD.cell 2 rfl
  obtain rfl : o = true := hoff
  clear hD hU hV hP hUV
  go_enter Try.func14, Try.ntmps14
  go_wp2_with (go_at_call 28; refine (check_any D _ true c0).mono ?_; rintro e w' ⟨rfl, rfl⟩)
  go_ret2
  exact ⟨rfl, rfl⟩
theorem read_out (D U V : Nat) (pv : Value) (d : DiskD) (off n : Int) (w : World) (h : DiskAt w D U V pv d) (hoff : d.off = false) (hsz : d.dur.length ≤ 4194304) (h64 : -9223372036854775808 ≤ off ∧ off ≤ 9223372036854775807) (hin : insideB d.dur.length off n = false) :
    Calls Try.prog 14 #[.pointer (some ⟨D, 0, none⟩), .int .i64 off, .int .i64 n] w (StrQ ⟨#[]⟩ 360 w) := by
  obtain ⟨o, le, du, vi, pe⟩ := d
  obtain ⟨hD, hU, hV, hP, hUV⟩ := id h
  have c0 : w.cell? ⟨D, 0, none⟩ = some (.bool o) := hD.cell 0 rfl
  have c2 : w.cell? ⟨D, 2, none⟩ = some (.slice (some ⟨U, 0, none⟩) du.length du.length) := hD.cell 2 rfl
  obtain rfl : o = false := hoff
  have HI := hide (inside_any D w off n _ _ _ c2 hsz h64)
  have HIN := hide hin
  clear hD hU hV hP hUV hsz hin
  go_enter Try.func14, Try.ntmps14
  go_wp2_with (first | (go_at_call 28; refine (check_any D _ false c0).mono ?_; rintro e w' ⟨rfl, rfl⟩) | (go_at_call 29; refine HI.out.mono ?_; rintro e w' ⟨rfl, rfl⟩; rw [show insideB (DiskD.mk false le du vi pe).dur.length off n = false from HIN.out]))
  go_ret2
  exact ⟨rfl, rfl⟩
theorem run_cutTo (g p m n : Nat) (h : n ≤ m) (w : World) : (Instr.slice 40 (.slice (some ⟨g, p, none⟩) m m) none (some (.int .i64 (n : Int))) none).run Try.prog w = .ok (.slice (some ⟨g, p, none⟩) n m) w := by
  have hu := Try.underlying40
  have h1 : (0 : Int) ≤ (n : Int) := by omega
  have h2 : (n : Int) ≤ (m : Int) := by omega
  simp [Instr.slice, run_underlying hu, Instr.sliceBounds, run_sliceBound, h1, h2, Addr.add]
theorem cut_cells {n o m : Nat} (h : o + m ≤ n) (hm : 0 < m) : cutAt n o = o := by unfold cutAt; rw [if_neg (by omega)]
theorem run_bytes (V p m c : Nat) (l : List UInt8) (hm : l.length = m) (w : World) (h : ∀ j, j < l.length → w.cell? ⟨V, p + j, none⟩ = some (.int .u8 ((l.getD j 0).toNat : Int))) :
    (convert 40 9 (.slice (some ⟨V, p, none⟩) m c)).run Try.prog w = .ok (.string ⟨l.toArray⟩) w := by
  subst hm
  refine run_convert_bytes_back w 40 9 5 ⟨V, p, none⟩ c l Try.underlying40 Try.underlying5 Try.underlying9 (fun j hj => ?_)
  have e : (⟨V, p, none⟩ : Addr).add j = ⟨V, p + j, none⟩ := by cases j <;> simp [Addr.add]
  rw [e, h j hj, List.getD_eq_getElem?_getD, List.getElem?_eq_getElem hj]; rfl
set_option maxRecDepth 20000 in
set_option maxHeartbeats 1000000 in
theorem read_in (D U V : Nat) (pv : Value) (d : DiskD) (off n : Nat) (w : World) (h : DiskAt w D U V pv d) (hoff : d.off = false) (hsz : d.dur.length ≤ 4194304) (hvl : d.vis.length = d.dur.length) (hin : off + n ≤ d.dur.length) :
    Calls Try.prog 14 #[.pointer (some ⟨D, 0, none⟩), .int .i64 off, .int .i64 n] w (StrQ ⟨((d.vis.drop off).take n).toArray⟩ 0 w) := by
  obtain ⟨o, le, du, vi, pe⟩ := d
  obtain ⟨hD, hU, hV, hP, hUV⟩ := id h
  have c0 : w.cell? ⟨D, 0, none⟩ = some (.bool o) := hD.cell 0 rfl
  have c2 : w.cell? ⟨D, 2, none⟩ = some (.slice (some ⟨U, 0, none⟩) du.length du.length) := hD.cell 2 rfl
  obtain rfl : o = false := hoff
  have hsz' : du.length ≤ 4194304 := hsz
  have hvl' : vi.length = du.length := hvl
  have hin' : off + n ≤ du.length := hin
  have HI := hide (inside_any D w off n _ _ _ c2 hsz' ⟨by omega, by omega⟩)
  have HIN : Hid (insideB du.length off n = true) := hide (by simp [insideB]; omega)
  have hcut := run_cut V vi.length off (by omega)
  have hcut2 := run_cutTo V (cutAt vi.length off) (vi.length - off) n (by omega)
  have hlen : ((vi.drop off).take n).length = n := by simp; omega
  have hconv := run_bytes V (cutAt vi.length off) n (vi.length - off) ((vi.drop off).take n) hlen w (fun j hj => by
    have hj' : j < n := by rw [hlen] at hj; exact hj
    rw [cut_cells (m := n) (by omega) (by omega)]
    have h1 : ((vi.drop off).take n).getD j 0 = vi.getD (off + j) 0 := by
      rw [List.getD_eq_getElem?_getD, List.getD_eq_getElem?_getD, List.getElem?_take, if_pos (by omega), List.getElem?_drop]
    rw [h1]
    refine hV.cell _ ?_
    rw [bytesV, List.getElem?_map, List.getElem?_eq_getElem (by show off + j < vi.length; omega), List.getD_eq_getElem?_getD, List.getElem?_eq_getElem (by omega)]; rfl)
  have c3 : w.cell? ⟨D, 3, none⟩ = some (.slice (some ⟨V, 0, none⟩) vi.length vi.length) := hD.cell 3 rfl
  generalize (vi.drop off).take n = R at hconv hlen ⊢
  generalize cutAt vi.length off = p at hcut hcut2 hconv
  generalize vi.length - off = m at hcut hcut2 hconv
  clear hD hU hV hP hUV hsz hvl hin hsz' hvl' hin' hlen
  go_enter Try.func14, Try.ntmps14
  go_wp2_with (first | (go_at_call 28; refine (check_any D _ false c0).mono ?_; rintro e w' ⟨rfl, rfl⟩) | (go_at_call 29; refine HI.out.mono ?_; rintro e w' ⟨rfl, rfl⟩; rw [show insideB du.length off n = true from HIN.out]))
  go_ret2
  exact ⟨rfl, rfl⟩
end Go.Proofs.Ytednelejpkchbaa
