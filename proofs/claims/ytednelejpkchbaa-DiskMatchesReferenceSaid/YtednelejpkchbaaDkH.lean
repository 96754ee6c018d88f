/- The walks of Sync, Read, Cut, and of the methods of a disk that is nil. Conditions: how the disk lies in memory; sizes. -/
import Derived.Test.YtednelejpkchbaaDkG
namespace Go.Proofs.Ytednelejpkchbaa
open Go.RowKit

theorem write_nil (off : Int) (s : ByteArray) (w : World) : Calls Try.prog 21 #[.pointer none, .int .i64 off, .string s] w (NumQ 1 w) := by
  go_enter Try.func21, Try.ntmps21
  go_wp2_with (go_at_call 28; refine (check_nil _).mono ?_; rintro e w' ⟨rfl, rfl⟩)
  go_ret
  exact ⟨rfl, rfl⟩
theorem sync_nil (w : World) : Calls Try.prog 23 #[.pointer none] w (NumQ 1 w) := by
  go_enter Try.func23, Try.ntmps23
  go_wp2_with (go_at_call 28; refine (check_nil _).mono ?_; rintro e w' ⟨rfl, rfl⟩)
  go_ret
  exact ⟨rfl, rfl⟩
theorem cut_nil (n : Int) (w : World) : Calls Try.prog 24 #[.pointer none, .int .i64 n] w (NumQ 1 w) := by
  go_enter Try.func24, Try.ntmps24
  go_wp2_with (go_at_call 28; refine (check_nil _).mono ?_; rintro e w' ⟨rfl, rfl⟩)
  go_ret
  exact ⟨rfl, rfl⟩
/-- a string and a number, and nothing turned -/
def StrQ (s : ByteArray) (n : Int) (w : World) (e : Ending) (w' : World) : Prop := e = .returned (.tuple #[.string s, .int .i64 n]) ∧ w = w'
theorem read_nil (off n : Int) (w : World) : Calls Try.prog 14 #[.pointer none, .int .i64 off, .int .i64 n] w (StrQ ⟨#[]⟩ 1 w) := by
  go_enter Try.func14, Try.ntmps14
  go_wp2_with (go_at_call 28; refine (check_nil _).mono ?_; rintro e w' ⟨rfl, rfl⟩)
  go_ret2
  exact ⟨rfl, rfl⟩
theorem crash_nil (kv : Value) (t : Int) (w : World) : Calls Try.prog 25 #[.pointer none, kv, .int .i64 t] w (Ret (.int .i64 1) w) := by
  go_enter Try.func25, Try.ntmps25
  go_wp2_with fail
  go_ret
  exact ⟨rfl, bal w _⟩
theorem sync_off (D U V : Nat) (pv : Value) (d : DiskD) (w : World) (h : DiskAt w D U V pv d) (hoff : d.off = true) : Calls Try.prog 23 #[.pointer (some ⟨D, 0, none⟩)] w (DiskQ 361 d D U V pv w) := by
  obtain ⟨o, le, du, vi, pe⟩ := d
  obtain ⟨hD, hU, hV, hP, hUV⟩ := id h
  have c0 : w.cell? ⟨D, 0, none⟩ = some (.bool o) := hD.cell 0 rfl
  have c2 : w.cell? ⟨D, 2, none⟩ = some (.slice (some ⟨U, 0, none⟩) du.length du.length) := hD.cell 2 rfl
  obtain rfl : o = true := hoff
  clear hD hU hV hP hUV
  go_enter Try.func23, Try.ntmps23
  go_wp2_with (go_at_call 28; refine (check_any D _ true c0).mono ?_; rintro e w' ⟨rfl, rfl⟩)
  go_ret
  exact ⟨rfl, pv, h, Eff.refl _ _, .inl rfl⟩
set_option maxRecDepth 20000 in
set_option maxHeartbeats 1000000 in
theorem sync_on (D U V : Nat) (pv : Value) (d : DiskD) (w : World) (h : DiskAt w D U V pv d) (hoff : d.off = false) (hvl : d.vis.length = d.dur.length) : Calls Try.prog 23 #[.pointer (some ⟨D, 0, none⟩)] w (DiskQ 0 ⟨d.off, d.left, d.vis, d.vis, []⟩ D U V pv w) := by
  obtain ⟨o, le, du, vi, pe⟩ := d
  obtain ⟨hD, hU, hV, hP, hUV⟩ := id h
  have c0 : w.cell? ⟨D, 0, none⟩ = some (.bool o) := hD.cell 0 rfl
  have c2 : w.cell? ⟨D, 2, none⟩ = some (.slice (some ⟨U, 0, none⟩) du.length du.length) := hD.cell 2 rfl
  obtain rfl : o = false := hoff
  have hvl' : vi.length = du.length := hvl
  have HS := hide (fun W (hb : Below w.heap.size w W) => settle_any D V U vi du pv _ false le _ _ W (hV.later hb) (hU.later hb) (hD.later hb) (hP.later hb) hvl' (Ne.symm hUV))
  have HVL := hide hvl'
  have HUV := hide hUV
  have hDV := hD.neT hV (by decide)
  have HVB := hide hV
  have hPV := hP.neT hV (by decide)
  have c3 : w.cell? ⟨D, 3, none⟩ = some (.slice (some ⟨V, 0, none⟩) vi.length vi.length) := hD.cell 3 rfl
  clear hD hU hV hP hUV hvl hvl'
  go_enter Try.func23, Try.ntmps23
  go_wp2_with (go_at_call 28; refine (check_any D _ false c0).mono ?_; rintro e w' ⟨rfl, rfl⟩)
  go_still_tail 9, (by kernel_rfl)
  change wpList _ _ _ _ _ w.drew
  obtain ⟨W1, hW1⟩ : ∃ W1, w.drew = W1 := ⟨_, rfl⟩
  rw [hW1]
  have hb1 : Below w.heap.size w W1 := by rw [← hW1]; exact (Below.refl _ _).drew
  clear hW1
  go_wp2_with fail
  refine (HS.out W1 hb1).mono ?_
  rintro e W2 ⟨rfl, pv', hU2, hD2, hP2, hob, hE2⟩
  have hV2 := (HVB.out.later hb1).eff hE2 (fun h => h.elim (fun e => hDV e.symm) (fun h => h.elim (fun e => HUV.out e.symm) (fun e => hPV e.symm)))
  go_wp2_with fail
  go_ret
  refine ⟨rfl, pv', ⟨?_, hU2, hV2, hP2, HUV.out⟩, (Eff.of_below hb1 _).trans (hE2.mono fun k _ h => ?_), .inl hob⟩
  · have e : diskCells ⟨false, le, vi, vi, []⟩ U V pv' = [.bool false, .int .i64 le, .slice (some ⟨U, 0, none⟩) du.length du.length, .slice (some ⟨V, 0, none⟩) vi.length vi.length, pv'] := by simp only [diskCells, HVL.out]
    rw [e]; exact hD2
  · exact h.elim Or.inl (fun h => h.elim (fun h => Or.inr (Or.inl h)) (fun h => Or.inr (Or.inr (Or.inr h))))
theorem cut_off (D U V : Nat) (pv : Value) (d : DiskD) (n : Int) (w : World) (h : DiskAt w D U V pv d) (hoff : d.off = true) : Calls Try.prog 24 #[.pointer (some ⟨D, 0, none⟩), .int .i64 n] w (DiskQ 361 d D U V pv w) := by
  obtain ⟨o, le, du, vi, pe⟩ := d
  obtain ⟨hD, hU, hV, hP, hUV⟩ := id h
  have c0 : w.cell? ⟨D, 0, none⟩ = some (.bool o) := hD.cell 0 rfl
  have c2 : w.cell? ⟨D, 2, none⟩ = some (.slice (some ⟨U, 0, none⟩) du.length du.length) := hD.cell 2 rfl
  obtain rfl : o = true := hoff
  clear hD hU hV hP hUV
  go_enter Try.func24, Try.ntmps24
  go_wp2_with (go_at_call 28; refine (check_any D _ true c0).mono ?_; rintro e w' ⟨rfl, rfl⟩)
  go_ret
  exact ⟨rfl, pv, h, Eff.refl _ _, .inl rfl⟩
theorem cut_neg (D U V : Nat) (pv : Value) (d : DiskD) (n : Int) (w : World) (h : DiskAt w D U V pv d) (hoff : d.off = false) (hn : n < 0) : Calls Try.prog 24 #[.pointer (some ⟨D, 0, none⟩), .int .i64 n] w (DiskQ 2 d D U V pv w) := by
  obtain ⟨o, le, du, vi, pe⟩ := d
  obtain ⟨hD, hU, hV, hP, hUV⟩ := id h
  have c0 : w.cell? ⟨D, 0, none⟩ = some (.bool o) := hD.cell 0 rfl
  have c2 : w.cell? ⟨D, 2, none⟩ = some (.slice (some ⟨U, 0, none⟩) du.length du.length) := hD.cell 2 rfl
  obtain rfl : o = false := hoff
  clear hD hU hV hP hUV
  go_enter Try.func24, Try.ntmps24
  go_wp2_with (go_at_call 28; refine (check_any D _ false c0).mono ?_; rintro e w' ⟨rfl, rfl⟩)
  go_ret
  exact ⟨rfl, pv, h, Eff.refl _ _, .inl rfl⟩
theorem cut_on (D U V : Nat) (pv : Value) (d : DiskD) (n : Int) (w : World) (h : DiskAt w D U V pv d) (hoff : d.off = false) (hn : 0 ≤ n) : Calls Try.prog 24 #[.pointer (some ⟨D, 0, none⟩), .int .i64 n] w (DiskQ 0 ⟨decide (n = 0), n, d.dur, d.vis, d.pend⟩ D U V pv w) := by
  obtain ⟨o, le, du, vi, pe⟩ := d
  obtain ⟨hD, hU, hV, hP, hUV⟩ := id h
  have c0 : w.cell? ⟨D, 0, none⟩ = some (.bool o) := hD.cell 0 rfl
  have c2 : w.cell? ⟨D, 2, none⟩ = some (.slice (some ⟨U, 0, none⟩) du.length du.length) := hD.cell 2 rfl
  obtain rfl : o = false := hoff
  have f0 := hD.frozen 0
  have f1 := hD.frozen 1
  have c1 : w.cell? ⟨D, 1, none⟩ = some (.int .i64 le) := hD.cell 1 rfl
  have hset := fun b => (hD.set 0 (.bool b)).set 1 (.int .i64 n)
  have hE := fun b => (Eff.setCell w D 0 (.bool b)).trans (Eff.setCell _ D 1 (.int .i64 n))
  have hfin : ∀ b, DiskAt ((w.setCell ⟨D, 0, none⟩ (.bool b)).setCell ⟨D, 1, none⟩ (.int .i64 n)) D U V pv ⟨b, n, du, vi, pe⟩ := fun b =>
    ⟨hset b, hU.eff (hE b) (hU.neT hD (by decide)), hV.eff (hE b) (hV.neT hD (by decide)), hP.eff (hE b) (fun g hg e => hP.neT hD (by decide) (by rw [hg, show g = D from e])), hUV⟩
  have HF := hide hfin
  have HE := hide hE
  clear hD hU hV hP hUV hset hE hfin
  by_cases h0 : n = 0
  · have e0 : (n == 0) = true := by simpa using h0
    have H0 := hide h0
    clear h0
    go_enter Try.func24, Try.ntmps24
    go_wp2_with (go_at_call 28; refine (check_any D _ false c0).mono ?_; rintro e w' ⟨rfl, rfl⟩)
    go_ret
    exact ⟨rfl, pv, by rw [decide_eq_true H0.out]; exact HF.out true, (HE.out true).mono fun k _ h => Or.inl h, .inl rfl⟩
  · have e0 : (n == 0) = false := by simpa using h0
    have H0 := hide h0
    clear h0
    go_enter Try.func24, Try.ntmps24
    go_wp2_with (go_at_call 28; refine (check_any D _ false c0).mono ?_; rintro e w' ⟨rfl, rfl⟩)
    go_ret
    exact ⟨rfl, pv, by rw [decide_eq_false H0.out]; exact HF.out false, (HE.out false).mono fun k _ h => Or.inl h, .inl rfl⟩
end Go.Proofs.Ytednelejpkchbaa
