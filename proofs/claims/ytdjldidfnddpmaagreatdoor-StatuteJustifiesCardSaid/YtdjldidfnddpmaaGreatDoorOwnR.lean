/- Slices of records (of k cells each) that a call itself makes and appends to. No condition. -/
import Derived.Test.YtdjldidfnddpmaaGreatDoorBlk
import Derived.Test.YtdjldidfnddpmaaGreatDoorLists
namespace Go.Proofs.YtdjldidfnddpmaaGreatDoor
open Go.RowKit

theorem flat_len {α : Type} {k : Nat} : ∀ {L : List (List α)}, (∀ r ∈ L, r.length = k) → L.flatten.length = L.length * k
  | [], _ => by simp
  | r :: L, h => by
    rw [List.flatten_cons, List.length_append, h r (by simp), flat_len (fun x hx => h x (by simp [hx])), List.length_cons, Nat.succ_mul]; omega
theorem flat_get {α : Type} {k : Nat} : ∀ {L : List (List α)}, (∀ r ∈ L, r.length = k) → ∀ (i j : Nat), j < k → L.flatten[i * k + j]? = (L.getD i [])[j]?
  | [], _, i, j, _ => by simp
  | r :: L, h, 0, j, hj => by
    rw [List.flatten_cons, List.getElem?_append_left (by rw [h r (by simp)]; omega)]; simp
  | r :: L, h, i + 1, j, hj => by
    have hr := h r (by simp)
    rw [List.flatten_cons, List.getElem?_append_right (by rw [hr, Nat.succ_mul]; omega), hr]
    have e : (i + 1) * k + j - k = i * k + j := by rw [Nat.succ_mul]; omega
    rw [e, flat_get (fun x hx => h x (by simp [hx])) i j hj]; simp
theorem flat_set {α : Type} {k : Nat} (u : α) : ∀ {L : List (List α)}, (∀ r ∈ L, r.length = k) → ∀ (i j : Nat), j < k → L.flatten.set (i * k + j) u = (L.set i ((L.getD i []).set j u)).flatten
  | [], _, i, j, _ => by simp
  | r :: L, h, 0, j, hj => by
    rw [List.flatten_cons, List.set_append_left _ _ (by rw [h r (by simp)]; omega)]; simp
  | r :: L, h, i + 1, j, hj => by
    have hr := h r (by simp)
    rw [List.flatten_cons, List.set_append_right _ _ (by rw [hr, Nat.succ_mul]; omega), hr]
    have e : (i + 1) * k + j - k = i * k + j := by rw [Nat.succ_mul]; omega
    rw [e, flat_set u (fun x hx => h x (by simp [hx])) i j hj]; simp
/-- the slice v holds the records L, of k cells each, in a block of its own from B on -/
def OwnR (w : World) (B : Nat) (e : TypeId) (k : Nat) (v : Value) (L : List (List Value)) : Prop := w.ownsRow B e k v L.length L.flatten ∧ ∀ r ∈ L, r.length = k
theorem OwnR.nil (w : World) (B : Nat) (e : TypeId) (k : Nat) : OwnR w B e k (.slice none 0 0) [] := ⟨World.ownsRow_nil _ _ _ _, fun _ h => by cases h⟩
theorem OwnR.form {w : World} {B : Nat} {e : TypeId} {k : Nat} {v : Value} {L : List (List Value)} (h : OwnR w B e k v L) :
    (v = .slice none 0 0 ∧ L = []) ∨ ∃ g c cur, v = .slice (some ⟨g, 0, none⟩) L.length c ∧ B ≤ g ∧ w.heap[g]? = some (.cells cur e (0, 0)) ∧ L.length ≤ c ∧ c ≤ maxLen := by
  rcases h.1.2 with ⟨h1, h2⟩ | ⟨g, cap, cur, e1, e2, e3, e4, e5, -⟩
  · exact .inl ⟨h1, List.length_eq_zero_iff.1 h2⟩
  · exact .inr ⟨g, cap, cur, e1, e2, e3, e4, e5⟩
theorem OwnR.cell {w : World} {B : Nat} {e : TypeId} {k g n c : Nat} {L : List (List Value)} (h : OwnR w B e k (.slice (some ⟨g, 0, none⟩) n c) L) (i j : Nat) (hi : i < L.length) (hj : j < k) {u : Value}
    (hu : (L.getD i [])[j]? = some u) : w.cell? ⟨g, i * k + j, none⟩ = some u := by
  have hn : n = L.length := by
    rcases h.form with ⟨h1, -⟩ | ⟨g', c', cur, e1, -⟩
    · cases h1
    · cases e1; rfl
  subst hn
  have hlt : i * k + j < L.length * k := by
    have : (i + 1) * k ≤ L.length * k := Nat.mul_le_mul_right k hi
    rw [Nat.succ_mul] at this; omega
  rw [World.ownsRow.cellAt h.1 _ hlt, flat_get h.2 i j hj, hu]
theorem OwnR.frozen {w : World} {B : Nat} {e : TypeId} {k g c : Nat} {L : List (List Value)} (h : OwnR w B e k (.slice (some ⟨g, 0, none⟩) L.length c) L) (j : Nat) : w.frozen? ⟨g, j, none⟩ = false :=
  World.ownsRow.frozenAt h.1 j
theorem OwnR.set {w : World} {B : Nat} {e : TypeId} {k g c : Nat} {L : List (List Value)} (h : OwnR w B e k (.slice (some ⟨g, 0, none⟩) L.length c) L) (i j : Nat) (hi : i < L.length) (hj : j < k) (u : Value) :
    OwnR (w.setCell ⟨g, i * k + j, none⟩ u) B e k (.slice (some ⟨g, 0, none⟩) L.length c) (L.set i ((L.getD i []).set j u)) := by
  have h1 := World.ownsRow.stored h.1 (i * k + j) u
  rw [flat_set u h.2 i j hj] at h1
  refine ⟨by rw [List.length_set]; exact h1.1, fun r hr => ?_⟩
  rcases List.mem_or_eq_of_mem_set hr with h2 | rfl
  · exact h.2 r h2
  · rw [List.length_set]
    exact h.2 _ (getD_mem L i hi)
/-- block b is no block of elements of type e -/
def NotE (e : TypeId) (w : World) (b : Nat) : Prop := ∀ cur m, w.heap[b]? ≠ some (.cells cur e m)
theorem Blk.notE {w : World} {b : Nat} {vs : List Value} {t e : TypeId} (h : Blk w b vs t) (hte : t ≠ e) : NotE e w b := fun cur m hc => by
  rw [show w.heap[b]? = _ from h] at hc; cases hc; exact hte rfl
/-- what an append to a slice of the call's own (from block B on, of element type e) leaves as it was -/
structure EffE (B : Nat) (e : TypeId) (w w' : World) : Prop where
  os : w'.os = w.os
  tape : w'.tape = w.tape
  output : w'.output = w.output
  size : w.heap.size ≤ w'.heap.size
  block : ∀ b, b < w.heap.size → (b < B ∨ NotE e w b) → w'.heap[b]? = w.heap[b]?
theorem EffE.below {B : Nat} {e : TypeId} {w w' : World} (h : EffE B e w w') (hB : B ≤ w.heap.size) : Below B w w' := ⟨h.os, h.tape, h.output, h.size, fun k hk => h.block k (by omega) (.inl hk)⟩
theorem EffE.blk {B : Nat} {e : TypeId} {w w' : World} (h : EffE B e w w') {b : Nat} {vs : List Value} {t : TypeId} (hb : Blk w b vs t) (hte : t ≠ e) : Blk w' b vs t :=
  (h.block b hb.lt (.inr (hb.notE hte))).trans hb
theorem EffE.of_below {B : Nat} {e : TypeId} {w w' : World} (h : Below w.heap.size w w') : EffE B e w w' := ⟨h.os, h.tape, h.output, h.size, fun k hk _ => h.block k hk⟩
theorem EffE.trans {B : Nat} {e : TypeId} {a b c : World} (h : EffE B e a b) (k : EffE B e b c) : EffE B e a c :=
  ⟨k.os.trans h.os, k.tape.trans h.tape, k.output.trans h.output, Nat.le_trans h.size k.size, fun i hi hn => by
    have h1 := h.block i hi hn
    rw [k.block i (by have := h.size; omega) (hn.imp id (fun hn cur m hc => hn cur m (by rw [← h1]; exact hc))), h1]⟩
theorem keeps_frmY_eff {B B' : Nat} {e t : TypeId} {w w' : World} (h : EffE B e w w') (hte : t ≠ e) : Keeps (frmY B' t w) (frmY B' t w') :=
  keeps_frmY_later fun k _ hk ht => h.block k hk (.inr fun cur m hc => by
    unfold typ at ht; rw [hc] at ht; simp at ht; exact hte ht.symm)
theorem app_rec {w : World} {ops : Array Oper} {rest : List Oper} {o : Oper} {a : Act} {Q : Exit → Act → World → Prop} {e t : TypeId} {k by_ : Nat} {z : Value}
    (hinfo : (Tryz.prog.info? e).map (fun i => (i.zero, i.size, i.bytes)) = some (some z, k, by_)) (hzk : z.cells.size = k) (hk : 0 < k) (hu : Tryz.prog.underlying t = some (.slice e)) (hgd : o.guard = none) (s x : Operand)
    (ho : o.op = .call { callee := .builtin .append, args := #[s, x], argTypes := #[t, t] }) (B : Nat) (v : Value) (L : List (List Value)) (hs : a.eval s = v) (hown : OwnR w B e k v L) (r : List Value) (hrk : r.length = k)
    (h1 : ∀ u ∈ r, u.oneCell' = true) (nb : Nat) (hx : a.eval x = .slice (some ⟨nb, 0, none⟩) 1 1) (hnb : nb = w.heap.size) (hlen : (L.length + 1) * by_ ≤ 140737488355328) (hlen2 : L.length < 1000000) (hB : B ≤ w.heap.size)
    (h : ∀ g c w', OwnR w' B e k (.slice (some ⟨g, 0, none⟩) (L ++ [r]).length c) (L ++ [r]) → EffE B e w w' → w.heap.size < w'.heap.size → wpList Tryz.prog ops Q rest (a.put o.dst (.slice (some ⟨g, 0, none⟩) (L.length + 1) c)) w') :
    wpList Tryz.prog ops Q (o :: rest) a (w.alloc (.cells r.toArray e)) := by
  subst hnb
  obtain ⟨i0, hi, hz0, hz1, hz2⟩ := info_parts hinfo
  refine wpList_append_own _ hgd s x t ho B e i0 z k by_ hu hi hz0 hz1 hz2 hzk hk v L.length L.flatten hs (World.ownsRow.alloc hown.1 _)
    ⟨w.heap.size, 0, none⟩ 1 1 r hx (by rw [hrk]; omega) ?_ h1 (by unfold maxLen; omega) hlen (by simp; omega) ?_
  · intro j u hj
    have := (Blk.new w r e).cell j hj
    cases j <;> simpa [Addr.add] using this
  · intro v' w' hown' hg _
    obtain ⟨g, c, rfl⟩ := ownsRow_succ hown'
    refine h g c w' ⟨by simpa using hown', fun q hq => ?_⟩ ⟨hg.os, hg.tape, hg.output, by have := hg.size; simp at this; omega, fun b hb hn => ?_⟩ (by have := hg.size; simp at this; omega)
    · rcases List.mem_append.1 hq with h2 | h2
      · exact hown.2 q h2
      · simp at h2; rw [h2, hrk]
    · rw [hg.block b (by simp; omega) ?_, Below.heap_alloc _ _ _ hb]
      intro he
      rcases hown.form with ⟨h2, -⟩ | ⟨g', c', cur, h2, h3, h4, -⟩
      · rw [h2] at he; cases he
      · rw [h2] at he; cases he
        rcases hn with hn | hn
        · have hn' : g' < B := hn
          omega
        · exact hn _ _ h4
end Go.Proofs.YtdjldidfnddpmaaGreatDoor
