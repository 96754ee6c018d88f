/- A list of calls as an argument, opened. No condition. -/
import Derived.Test.YtednelejpkchbaaLiftF
import Derived.Test.YtednelejpkchbaaLnD
namespace Go.Proofs.Ytednelejpkchbaa
open Go.ChangeShapes Go.WideShapes Go.ChangeAt Go.RowKit Go.ChangeMaps

theorem Try.cells37 : Try.prog.cellsOf 37 = 1 := by kernel_rfl
theorem Try.cells39 : Try.prog.cellsOf 39 = 5 := by kernel_rfl
def SParR (w : World) (cs : List Value) (p : SPar) : Prop :=
  (i64B p.call ∧ i64B p.off ∧ i64B p.n ∧ (p.s.size : Int) ≤ 9223372036854775807) ∧ ∃ ka kc, cs = [.int .i64 p.call, .int .i64 p.off, .int .i64 p.n, .string p.s, .slice ka p.keep.length kc] ∧ IntsAt w (.slice ka p.keep.length kc) p.keep
theorem ints_of {c : Addr → Option Value} {v : Value} {l : List Int} (h : SliceR 1 IntR (0 : Int) c v l) : IntsIn c v l := by
  obtain ⟨a, n, h1, h2, h3, h4⟩ := h
  refine ⟨a, n, h1, h2, h3, fun k hk => ?_⟩
  obtain ⟨b, o, cs, e, -, ⟨rfl, -⟩, hc⟩ := h4 k hk
  refine ⟨b, o, e, ?_⟩
  have := hc 0 (by omega)
  rw [Nat.mul_one, Nat.add_zero] at this
  exact this
section
variable {H : Type} {enc : TypeId × Value → H} {w : World} {base : Nat} {sp : Nat → Bool} {held : Bool}
set_option maxRecDepth 100000 in
theorem trod_spar {n : Nat} {y : DataW H × List MemPlace} {cs : List Value} (hl : cs.length = 5) (h : DataW.trod enc Try.prog w base sp held n 39 cs = some y) : ∃ p, SParR w cs p := by
  obtain ⟨n0, y0, h0⟩ := trod_fld Try.underlying39 h 0 _ rfl
  obtain ⟨n1, y1, h1⟩ := trod_fld Try.underlying39 h 1 _ rfl
  obtain ⟨n2, y2, h2⟩ := trod_fld Try.underlying39 h 2 _ rfl
  obtain ⟨n3, y3, h3⟩ := trod_fld Try.underlying39 h 3 _ rfl
  obtain ⟨n4, y4, h4⟩ := trod_fld Try.underlying39 h 4 _ rfl
  obtain ⟨a, e0, ha⟩ := trod_i64 Try.underlying3 h0
  obtain ⟨b, e1, hb⟩ := trod_i64 Try.underlying3 h1
  obtain ⟨c, e2, hc⟩ := trod_i64 Try.underlying3 h2
  obtain ⟨s, e3, -, hs⟩ := DataW.trod_string Try.underlying9 h3
  obtain ⟨v, K, e4, hK⟩ := trod_sliceR (R := IntR) (0 : Int) (by decide) Try.underlying37 Try.cells3 (fun n y cs hc hy => by
    obtain ⟨x, h1, h2⟩ := trod_i64 Try.underlying3 hy
    exact ⟨x, h1, h2⟩) h4
  have g0 := take1 (by rw [← Try.cells3]; exact e0)
  have g1 := take1 (by rw [← Try.cells3]; exact e1)
  have g2 := take1 (by rw [← Try.cells3]; exact e2)
  have g3 := take1 (by rw [← Try.cells9]; exact e3)
  have g4 := take1 (by rw [← Try.cells37]; exact e4)
  have hI := ints_of hK
  obtain ⟨ka, kc, rfl, -⟩ := id hI
  match cs, hl with
  | [v0, v1, v2, v3, v4], _ =>
    simp at g0 g1 g2 g3 g4
    subst g0 g1 g2 g3 g4
    exact ⟨⟨a, b, c, s, K⟩, ⟨ha, hb, hc, by simp only [maxLen] at hs; show (s.size : Int) ≤ _; omega⟩, ka, kc, rfl, hI⟩
set_option maxRecDepth 100000 in
theorem open_spars {r : Reach} {b0 : Nat} {v : Value} {d : DataW H} {ps : List MemPlace} (hv : Value.okWide Try.prog w r b0 32 v) (h : DataW.Trod enc Try.prog w base sp held 32 v d ps) :
    ∃ l, SParsAt w v l := by
  obtain ⟨l, a, n, h1, h2, h3, h4⟩ := open_sliceR (R := SParR w) sp0 (by decide) Try.underlying32 Try.cells39 (fun n y cs hc hy => trod_spar hc hy) hv h
  refine ⟨l, a, n, h1, h2, h3, fun k hk => ?_⟩
  obtain ⟨b, o, cs, e, -, ⟨hb, ka, kc, rfl, hK⟩, hc⟩ := h4 k hk
  exact ⟨hb, b, o, ka, kc, e, hc 0 (by omega), hc 1 (by omega), hc 2 (by omega), hc 3 (by omega), hc 4 (by omega), hK⟩
end
end Go.Proofs.Ytednelejpkchbaa
