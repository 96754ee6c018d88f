/- The base of my proofs for this seat: worlds beyond a world, what a call returns, lists of integers in memory. No condition. -/
import Derived.Test.YtdjldidfnddpmaaGreatDoorRows
import Derived.WalkKit
import Derived.WalkSpells
import Derived.WalkLawsBesides
import Derived.Deep.QuietTactic
import Derived.BigQuiet
namespace Go.Proofs.YtdjldidfnddpmaaGreatDoor
open Go.RowKit

theorem hide {p : Prop} (h : p) : Hid p := h

/-- the worlds in which all that lies below block B of w is as it was -/
structure Bw (B : Nat) (w : World) where
  W : World
  h : Below B w W
instance Bw.ne (B : Nat) (w : World) : Nonempty (Bw B w) := ⟨⟨w, Below.refl B w⟩⟩

/-- the call returns R and turns nothing that was there -/
def Ret (R : Value) (w : World) (e : Ending) (w' : World) : Prop := e = .returned R ∧ Below w.heap.size w w'
/-- how cells are read: from a world, or from the blocks of it from B on, or from B to C -/
abbrev Rd := Addr → Option Value
def frm (B : Nat) (w : World) : Rd := fun a => if B ≤ a.block then w.cell? a else none
def rng (B C : Nat) (w : World) : Rd := fun a => if B ≤ a.block ∧ a.block < C then w.cell? a else none
def Keeps (c c' : Rd) : Prop := ∀ a v, c a = some v → c' a = some v
/-- the call returns a value of which Q holds, of the new blocks alone, and turns nothing that was there -/
def RetM (Q : Rd → Value → Prop) (w : World) (e : Ending) (w' : World) : Prop := ∃ v, e = .returned v ∧ Q (frm w.heap.size w') v ∧ Below w.heap.size w w'
/-- two results -/
def RetM2 (Q : Rd → Value → Value → Prop) (w : World) (e : Ending) (w' : World) : Prop := ∃ v u, e = .returned (.tuple #[v, u]) ∧ Q (frm w.heap.size w') v u ∧ Below w.heap.size w w'

theorem lt_of_cell {w : World} {a : Addr} {v : Value} (h : w.cell? a = some v) : a.block < w.heap.size := by
  refine Decidable.byContradiction fun hn => ?_
  have : w.heap[a.block]? = none := Array.getElem?_eq_none (by omega)
  simp [World.cell?, this] at h
theorem keep {w W : World} {a : Addr} {v : Value} (hb : Below w.heap.size w W) (h : w.cell? a = some v) : W.cell? a = some v :=
  (hb.cell (lt_of_cell h)).trans h
theorem Keeps.refl (c : Rd) : Keeps c c := fun _ _ h => h
theorem Keeps.trans {a b c : Rd} (h : Keeps a b) (k : Keeps b c) : Keeps a c := fun x v e => k x v (h x v e)
theorem keeps_of_below {w W : World} (hb : Below w.heap.size w W) : Keeps w.cell? W.cell? := fun _ _ h => keep hb h
theorem keeps_frm (B : Nat) (w : World) : Keeps (frm B w) w.cell? := fun a v h => by unfold frm at h; split at h; exact h; cases h
theorem keeps_frm_le {B B' : Nat} (w : World) (h : B' ≤ B) : Keeps (frm B w) (frm B' w) := fun a v e => by
  unfold frm at e ⊢; split at e
  · rw [if_pos (by omega)]; exact e
  · cases e
theorem keeps_rng (B C : Nat) (w : World) : Keeps (rng B C w) w.cell? := fun a v h => by unfold rng at h; split at h; exact h; cases h
theorem keeps_frm_rng (B : Nat) (w : World) : Keeps (frm B w) (rng B w.heap.size w) := fun a v h => by
  unfold frm at h; split at h
  · rename_i hB; unfold rng; rw [if_pos ⟨hB, lt_of_cell h⟩]; exact h
  · cases h
theorem keeps_frm_later {B : Nat} {w W : World} (hb : ∀ k, B ≤ k → k < w.heap.size → W.heap[k]? = w.heap[k]?) : Keeps (frm B w) (frm B W) := fun a v h => by
  unfold frm at h ⊢; split at h
  · rename_i hB; rw [if_pos hB, World.cell?_of_block (hb _ hB (lt_of_cell h))]; exact h
  · cases h
theorem keeps_rng_later {B C : Nat} {w W : World} (hb : ∀ k, B ≤ k → k < C → W.heap[k]? = w.heap[k]?) : Keeps (rng B C w) (rng B C W) := fun a v h => by
  unfold rng at h ⊢; split at h
  · rename_i hB; rw [if_pos hB, World.cell?_of_block (hb _ hB.1 hB.2)]; exact h
  · cases h
theorem frm_pos {B b o : Nat} {w : World} {v : Value} (hB : B ≤ b) (h : w.cell? ⟨b, o, none⟩ = some v) : frm B w ⟨b, o, none⟩ = some v := by
  unfold frm; rw [if_pos hB]; exact h
theorem bwc {w : World} {a : Addr} {v : Value} (h : w.cell? a = some v) : ∀ i : Bw w.heap.size w, i.W.cell? a = some v := fun i => keep i.h h

theorem wp_region_bw {P : Program} {id : Nat} {Q : Exit → Act → World → Prop} {a : Act} {w : World} {l : List Oper} (hm : P.follows .mixedOrders = true) (hB : Region.lexB .any l.toArray = true)
    (h : wpQuiet P l.toArray (fun w' => ∃ i : Bw w.heap.size w, w' = i.W) (fun a' => ∀ w', (∃ i : Bw w.heap.size w, w' = i.W) → Q .normal a' w') l a) : (Code.region id l.toArray true).wp P Q a w :=
  wp_region_quiet (C := fun w' => ∃ i : Bw w.heap.size w, w' = i.W) hm hB ⟨⟨w.drew, (Below.refl _ w).drew⟩, rfl⟩ (by simpa using h)
theorem quiet {P : Program} {f : FuncId} {args : Array Value} {w : World} {v : Value} {i : Bw w.heap.size w} (h : Calls P f args i.W (Ret v i.W)) :
    Calls P f args i.W fun e w'' => e = .returned v ∧ ∃ j : Bw w.heap.size w, w'' = j.W :=
  h.mono fun _ w'' ⟨he, hb⟩ => ⟨he, ⟨w'', i.h.trans (hb.mono i.h.size)⟩, rfl⟩
theorem bwb {w : World} (i : Bw w.heap.size w) {B : Nat} {w0 : World} (h : Below B w0 w) (hB : B ≤ w.heap.size) : Below B w0 i.W := h.trans (i.h.mono hB)
theorem below2 {a b c : World} (h : Below a.heap.size a b) (k : Below b.heap.size b c) : Below a.heap.size a c := h.trans (k.mono h.size)

/-- a slice of integers that holds l -/
def IntsIn (c : Rd) (v : Value) (l : List Int) : Prop :=
  ∃ a n, v = .slice a l.length n ∧ l.length ≤ n ∧ n ≤ 9223372036854775807 ∧ ∀ k, k < l.length → ∃ b o, a = some ⟨b, o, none⟩ ∧ c ⟨b, o + k, none⟩ = some (.int .i64 (l.getD k 0))
def IntsAt (w : World) (v : Value) (l : List Int) : Prop := IntsIn w.cell? v l
theorem IntsIn.keeps {c c' : Rd} {v : Value} {l : List Int} (hk : Keeps c c') (h : IntsIn c v l) : IntsIn c' v l := by
  obtain ⟨a, n, h1, h2, h3, h4⟩ := h
  exact ⟨a, n, h1, h2, h3, fun k hl => let ⟨b, o, e, hc⟩ := h4 k hl; ⟨b, o, e, hk _ _ hc⟩⟩
theorem IntsAt.below {w W : World} {v : Value} {l : List Int} (hb : Below w.heap.size w W) (h : IntsAt w v l) : IntsAt W v l := IntsIn.keeps (keeps_of_below hb) h
theorem IntsIn.at {B : Nat} {w : World} {v : Value} {l : List Int} (h : IntsIn (frm B w) v l) : IntsAt w v l := IntsIn.keeps (keeps_frm B w) h
theorem IntsIn.nil (c : Rd) : IntsIn c (.slice none 0 0) [] := ⟨none, 0, rfl, Nat.le_refl _, by omega, fun k hk => by simp at hk⟩

theorem boxed (w : World) (C : Array Value) (t : TypeId) : ∃ w0, w.alloc (.cells C t) = w0 ∧ Below w.heap.size w w0 ∧ (∀ (i : Nat) (v : Value), C[i]? = some v → w0.cell? ⟨w.heap.size, i, none⟩ = some v) ∧ (∀ i : Nat, w0.frozen? ⟨w.heap.size, i, none⟩ = false) :=
  ⟨_, rfl, (Below.refl _ w).alloc (Nat.le_refl _) _, fun i v h => by rw [World.cell?_alloc_at C t _ i rfl, h], fun i => World.frozen?_alloc_at C t _ i rfl⟩
theorem bal (w : World) (o : Obj) : Below w.heap.size w (w.alloc o) := (Below.refl _ w).alloc (Nat.le_refl _) _
/-- is block b one of cells of type t? -/
def typ (t : TypeId) (w : World) (b : Nat) : Bool := match w.heap[b]? with
  | some (.cells _ t' _) => t' == t
  | _ => false
/-- the blocks from B on, of type t -/
def frmY (B : Nat) (t : TypeId) (w : World) : Rd := fun a => if B ≤ a.block ∧ typ t w a.block = true then w.cell? a else none
theorem keeps_frmY (B : Nat) (t : TypeId) (w : World) : Keeps (frmY B t w) (frm B w) := fun a v h => by
  unfold frmY at h; split at h
  · rename_i hB; unfold frm; rw [if_pos hB.1]; exact h
  · cases h
theorem keeps_frmY_le {B B' : Nat} (t : TypeId) (w : World) (h : B' ≤ B) : Keeps (frmY B t w) (frmY B' t w) := fun a v e => by
  unfold frmY at e ⊢; split at e
  · rename_i hB; rw [if_pos ⟨by omega, hB.2⟩]; exact e
  · cases e
theorem keeps_frmY_later {B : Nat} {t : TypeId} {w W : World} (hb : ∀ k, B ≤ k → k < w.heap.size → typ t w k = true → W.heap[k]? = w.heap[k]?) : Keeps (frmY B t w) (frmY B t W) := fun a v h => by
  unfold frmY at h ⊢; split at h
  · rename_i hB
    have e := hb _ hB.1 (lt_of_cell h) hB.2
    rw [if_pos ⟨hB.1, by unfold typ at hB ⊢; rw [e]; exact hB.2⟩, World.cell?_of_block e]; exact h
  · cases h
theorem keeps_frmY_below {B : Nat} {t : TypeId} {w W : World} (hb : Below w.heap.size w W) : Keeps (frmY B t w) (frmY B t W) := keeps_frmY_later fun k _ h _ => hb.block k h
theorem ret_int {k : IntKind} {a b : Int} (h : a = b) : Ending.returned (.int k a) = .returned (.int k b) := by rw [h]
theorem ret_bool {a b : Bool} (h : a = b) : Ending.returned (.bool a) = .returned (.bool b) := by rw [h]
theorem i64_eq {a b : Int} (h : a = b) : Value.int .i64 a = .int .i64 b := by rw [h]
end Go.Proofs.YtdjldidfnddpmaaGreatDoor
