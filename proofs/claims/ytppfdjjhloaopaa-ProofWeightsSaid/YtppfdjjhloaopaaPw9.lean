/- Walks of the closures of proof of package program. Conditions: how the arguments lie in memory; sizes. -/
import Derived.Test.YtppfdjjhloaopaaPw8
import Derived.Test.YtppfdjjhloaopaaOwnR
import Derived.StillTailTactics
namespace Go.Proofs.Ytppfdjjhloaopaa
open Go.RowKit

set_option maxHeartbeats 400000 in
theorem bad_any (r : RowD) (cv : Value) (Bd Bs d s : Nat) (w : World) (hv : IntsAt w cv r.coef) (hl : r.coef.length ≤ 13) (hb : coefsB r.coef = true) (hd : d ≤ r.coef.length)
    (hBd : w.cell? ⟨Bd, 0, none⟩ = some (.int .i64 d)) (hBs : w.cell? ⟨Bs, 0, none⟩ = some (.int .i64 s)) :
    Calls Try.prog 77 #[rowV r cv, .pointer (some ⟨Bd, 0, none⟩), .pointer (some ⟨Bs, 0, none⟩)] w (Ret (.bool (badB d s r)) w) := by
  obtain ⟨w0, hw0, hb0, c0, c1, c2, c3, c4, c5⟩ := boxedRow w r cv
  have k1 := keep hb0 hBd
  have k2 := keep hb0 hBs
  rw [← hw0] at hb0 c0 c1 c2 c3 c4 c5 k1 k2
  have hv0 := hv.below hb0
  have d0 := bwc c0
  have d1 := bwc c1
  have d2 := bwc c2
  have d3 := bwc c3
  have d4 := bwc c4
  have d5 := bwc c5
  have d6 := bwc k1
  have d7 := bwc k2
  clear hw0
  go_enter Try.func77, Try.ntmps77
  go_wp2_with fail
  refine wp_region_bw (by kernel_rfl) (by kernel_rfl) ?_
  repeat (go_big_quiet_step ((go_at_call 78; exact quiet (least_any r cv d s _ (hv0.below (Bw.h _)) hl hb hd))))
  refine wpQuiet_nil ?_
  rintro _ ⟨i, rfl⟩
  go_wp2
  go_ret
  exact ⟨rfl, below2 hb0 i.h⟩
/-- the weights of a step that proof makes -/
def OwnW (W : World) (B : Nat) (wv : Value) (ws : List (Int × Int)) : Prop :=
  (wv = .slice none 0 0 ∧ ws = []) ∨ ∃ b r, Blk W b [.int .i64 r, .int .i64 1] 56 ∧ B ≤ b ∧ wv = .slice (some ⟨b, 0, none⟩) 1 1 ∧ ws = [(r, 1)]
def stepCells (s : StepD) (wv : Value) : List Value := [.int .i64 s.var, .int .i64 s.no, .int .i64 s.yes, wv]
/-- the slice v holds steps that proof has made -/
def StepsOwn (W : World) (B : Nat) (v : Value) (l : List StepD) : Prop :=
  ∃ L, OwnR W B 54 4 v L ∧ L.length = l.length ∧ ∀ i, i < l.length → ∃ wv, L.getD i [] = stepCells (l.getD i st0) wv ∧ OwnW W B wv (l.getD i st0).wts
/-- what a call of the closure leaves as it was: all but block s, and but the rows of steps from B on -/
structure EffX (B s : Nat) (w w' : World) : Prop where
  os : w'.os = w.os
  tape : w'.tape = w.tape
  output : w'.output = w.output
  size : w.heap.size ≤ w'.heap.size
  block : ∀ b, b < w.heap.size → b ≠ s → (b < B ∨ NotE 54 w b) → w'.heap[b]? = w.heap[b]?
theorem EffX.of {B s : Nat} {w w' : World} (h : EffE B 54 w w') : EffX B s w w' := ⟨h.os, h.tape, h.output, h.size, fun b hb _ hn => h.block b hb hn⟩
theorem EffX.trans {B s : Nat} {a b c : World} (h : EffX B s a b) (k : EffX B s b c) : EffX B s a c :=
  ⟨k.os.trans h.os, k.tape.trans h.tape, k.output.trans h.output, Nat.le_trans h.size k.size, fun i hi hs hn => by
    have h1 := h.block i hi hs hn
    rw [k.block i (by have := h.size; omega) hs (hn.imp id (fun hn cur m hc => hn cur m (by rw [← h1]; exact hc))), h1]⟩
theorem EffX.set {B s : Nat} (w : World) (j : Nat) (u : Value) : EffX B s w (w.setCell ⟨s, j, none⟩ u) :=
  ⟨rfl, rfl, rfl, by simp [World.setCell], fun b _ hs _ => Below.heap_setCell _ _ _ _ hs⟩
theorem EffX.blk {B s : Nat} {w w' : World} (h : EffX B s w w') {b : Nat} {vs : List Value} {t : TypeId} (hb : Blk w b vs t) (hs : b ≠ s) (hte : t ≠ 54) : Blk w' b vs t :=
  (h.block b hb.lt hs (.inr (hb.notE hte))).trans hb
theorem EffX.below {B s : Nat} {w0 w w' : World} (h : EffX B s w w') (h0 : Below w0.heap.size w0 w) (hs : w0.heap.size ≤ s) (hB : w0.heap.size ≤ B) : Below w0.heap.size w0 w' :=
  h0.trans ⟨h.os, h.tape, h.output, h.size, fun k hk => h.block k (by have := h0.size; omega) (by omega) (.inl (by omega))⟩
theorem infoStep : (Try.prog.info? 54).map (fun i => (i.zero, i.size, i.bytes)) = some (some (.agg #[.int .i64 0, .int .i64 0, .int .i64 0, .slice none 0 0]), 4, 48) := by kernel_rfl
end Go.Proofs.Ytppfdjjhloaopaa
