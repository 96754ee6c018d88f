/- Laws that a call itself makes; appends of one record in a region that draws its order. No condition. -/
import Derived.Test.YtdjldidfnddpmaaGreatSwB
import Derived.Deep.RegionLawGrows
namespace Go.Proofs.YtdjldidfnddpmaaGreat
open Go.RowKit

/-- what an append to a slice of the call's own, and a box that is written, leave as they were -/
structure EffY (B : Nat) (e : TypeId) (O : Nat) (w w' : World) : Prop where
  os : w'.os = w.os
  tape : w'.tape = w.tape
  output : w'.output = w.output
  size : w.heap.size ≤ w'.heap.size
  block : ∀ b, b < w.heap.size → b ≠ O → (b < B ∨ NotE e w b) → w'.heap[b]? = w.heap[b]?
theorem effE_of_grown {W w' : World} {B : Nat} {e : TypeId} {k : Nat} {v : Value} {L : List (List Value)} (hown : OwnR W B e k v L) (hg : W.grownBy w' v.ownBlock) : EffE B e W w' := by
  refine ⟨hg.os, hg.tape, hg.output, hg.size, fun b hb hn => hg.block b hb ?_⟩
  intro he
  rcases hown.form with ⟨h2, -⟩ | ⟨g', c', cur, h2, h3, h4, -⟩
  · rw [h2] at he; cases he
  · rw [h2] at he; cases he
    rcases hn with hn | hn
    · have hn' : g' < B := hn
      omega
    · exact hn _ _ h4
theorem EffE.toY {B : Nat} {e : TypeId} {O j : Nat} {w w' : World} (h : EffE B e w w') (u : Value) : EffY B e O w (w'.setCell ⟨O, j, none⟩ u) :=
  ⟨h.os, h.tape, h.output, by simpa [World.setCell] using h.size, fun b hb hO hn => (Below.heap_setCell w' ⟨O, j, none⟩ u b hO).trans (h.block b hb hn)⟩
theorem EffY.below {B : Nat} {e : TypeId} {O C : Nat} {w w' : World} (h : EffY B e O w w') (hB : C ≤ B) (hO : C ≤ O) (hw : C ≤ w.heap.size) : Below C w w' :=
  ⟨h.os, h.tape, h.output, h.size, fun k hk => h.block k (by omega) (by omega) (.inl (by omega))⟩
theorem EffY.blk {B : Nat} {e : TypeId} {O : Nat} {w w' : World} (h : EffY B e O w w') {b : Nat} {vs : List Value} {t : TypeId} (hb : Blk w b vs t) (hO : b ≠ O) (hte : t ≠ e) : Blk w' b vs t :=
  (h.block b hb.lt hO (.inr (hb.notE hte))).trans hb
theorem OwnR.setO {W : World} {B O j : Nat} {e : TypeId} {k : Nat} {v : Value} {L : List (List Value)} {vs : List Value} {t : TypeId} (h : OwnR W B e k v L) (hO : Blk W O vs t) (hte : t ≠ e) (u : Value) : OwnR (W.setCell ⟨O, j, none⟩ u) B e k v L := by
  obtain ⟨⟨h1, h2⟩, h3⟩ := h
  refine ⟨⟨h1, h2.imp id ?_⟩, h3⟩
  rintro ⟨g, cap, cur, e1, e2, e3, e4⟩
  refine ⟨g, cap, cur, e1, e2, ?_, e4⟩
  refine (Below.heap_setCell W ⟨O, j, none⟩ u g ?_).trans e3
  show g ≠ O
  rintro rfl
  have := (show W.heap[g]? = _ from hO).symm.trans e3
  simp at this; exact hte this.2
theorem own_some {W : World} {B : Nat} {e : TypeId} {k : Nat} {v : Value} {L : List (List Value)} {x : List Value} (h : OwnR W B e k v (L ++ [x])) : ∃ g c, v = .slice (some ⟨g, 0, none⟩) (L.length + 1) c := by
  rcases h.form with ⟨-, h2⟩ | ⟨g, c, cur, h1, -⟩
  · simp at h2
  · exact ⟨g, c, by rw [h1]; simp⟩
theorem news2 {W : World} {b0 : Nat} {r : List Value} {t : TypeId} (h : Blk W b0 r t) : ∀ b, (some ⟨b0, 0, none⟩ : Option Addr) = some b → ∀ j u, [r].flatten[j]? = some u → W.cell? (b.add j) = some u := fun b hb j u hj => by
  cases hb
  have h9 := h.cell j (by simpa using hj)
  cases j <;> simpa [Addr.add] using h9

theorem EffY.of_below {B : Nat} {e : TypeId} {O : Nat} {w w' : World} (h : Below w.heap.size w w') : EffY B e O w w' := ⟨h.os, h.tape, h.output, h.size, fun b hb _ _ => h.block b hb⟩
theorem NotE.back {e : TypeId} {w w' : World} {b : Nat} (h : NotE e w b) (he : w'.heap[b]? = w.heap[b]?) : NotE e w' b := fun cur m hc => h cur m (by rw [← he]; exact hc)
theorem EffY.trans {B : Nat} {e : TypeId} {O : Nat} {a b c : World} (h : EffY B e O a b) (k : EffY B e O b c) : EffY B e O a c :=
  ⟨k.os.trans h.os, k.tape.trans h.tape, k.output.trans h.output, Nat.le_trans h.size k.size, fun i hi hO hn => by
    have h1 := h.block i hi hO hn
    rw [k.block i (Nat.lt_of_lt_of_le hi h.size) hO (hn.imp id fun hn => hn.back h1), h1]⟩
theorem EffY.then {B : Nat} {e : TypeId} {O : Nat} {a b c : World} (h : EffY B e O a b) (k : Below b.heap.size b c) : EffY B e O a c := h.trans (EffY.of_below k)
theorem EffY.app {B : Nat} {e : TypeId} {O : Nat} {a b c : World} (h : EffY B e O a b) (k : EffE B e b c) : EffY B e O a c := h.trans ⟨k.os, k.tape, k.output, k.size, fun i hi _ hn => k.block i hi hn⟩
theorem EffY.set {B : Nat} {e : TypeId} {O : Nat} {a b : World} (h : EffY B e O a b) (j : Nat) (u : Value) : EffY B e O a (b.setCell ⟨O, j, none⟩ u) :=
  ⟨h.os, h.tape, h.output, by simpa [World.setCell] using h.size, fun i hi hO hn => (Below.heap_setCell b ⟨O, j, none⟩ u i hO).trans (h.block i hi hO hn)⟩
theorem EffY.cell {B : Nat} {e : TypeId} {O : Nat} {w w' : World} (h : EffY B e O w w') {b : Nat} {vs : List Value} {t : TypeId} (hb : Blk w b vs t) (hO : b ≠ O) (hte : t ≠ e) (i : Nat) {v : Value} (hv : vs[i]? = some v) : w'.cell? ⟨b, i, none⟩ = some v := (h.blk hb hO hte).cell i hv
theorem keeps_frmY_effY {B B' O : Nat} {e t to : TypeId} {w w' : World} {vs : List Value} (h : EffY B e O w w') (hO : Blk w O vs to) (hto : to ≠ t) (hte : t ≠ e) : Keeps (frmY B' t w) (frmY B' t w') :=
  keeps_frmY_later fun k _ hk ht => h.block k hk (fun ek => by
    subst ek
    unfold typ at ht
    rw [show w.heap[k]? = _ from hO] at ht
    simp at ht; exact hto ht) (.inr fun cur m hc => by
    unfold typ at ht; rw [hc] at ht; simp at ht; exact hte ht.symm)
theorem keeps_low_effY {B O : Nat} {e : TypeId} {w0 w w' : World} (h : EffY B e O w w') (hB : w0.heap.size ≤ B) (hO : w0.heap.size ≤ O) (hw : Below w0.heap.size w0 w) : Below w0.heap.size w0 w' :=
  hw.trans (h.below hB hO hw.size)
/-- an append of one record, in a region that draws its order -/
theorem step_one {W : World} {ops : Array Oper} {o : Oper} {T : Array Value} {D : List Deferred} {K : Act → World → Prop} {Q : Exit → Act → World → Prop} {E : Prop} {e t : TypeId} {k by_ : Nat} {z : Value}
    (hinfo : (Tryz.prog.info? e).map (fun i => (i.zero, i.size, i.bytes)) = some (some z, k, by_)) (hzk : z.cells.size = k) (hk : 0 < k) (hu : Tryz.prog.underlying t = some (.slice e)) (hgd : o.guard = none) (s x : Operand)
    (ho : o.op = .call { callee := .builtin .append, args := #[s, x], argTypes := #[t, t] }) (B : Nat) (v : Value) (L : List (List Value)) (hs : Act.eval ⟨T, D⟩ s = v) (hown : OwnR W B e k v L)
    (nb : Nat) (r : List Value) (hx : Act.eval ⟨T, D⟩ x = .slice (some ⟨nb, 0, none⟩) 1 1) (hr : Blk W nb r e) (hrk : r.length = k) (hone : ∀ u ∈ r, u.oneCell' = true)
    (hlen : (L.length + 1) * by_ ≤ 140737488355328) (hlen2 : L.length + 1 < 1000000) (hB : B ≤ W.heap.size)
    (h : ∀ g c w', OwnR w' B e k (.slice (some ⟨g, 0, none⟩) (L.length + 1) c) (L ++ [r]) → EffE B e W w' → K (Act.put ⟨T, D⟩ o.dst (.slice (some ⟨g, 0, none⟩) (L.length + 1) c)) w') :
    if Region.wanted o (yielded ops T) = true then Oper.wp Tryz.prog o ⟨T, D⟩ W K Q else E := by
  have hw : Region.wanted o (yielded ops T) = true := by simp [Region.wanted, hgd]
  have hw' : Region.wanted o (yielded ops (Act.tmps ⟨T, D⟩)) = true := hw
  rw [if_pos hw]
  obtain ⟨i0, hi, hz0, hz1, hz2⟩ := info_parts hinfo
  refine wp_append_own _ s x t ho B e i0 z k by_ hu hi hz0 hz1 hz2 hzk hk v L.length L.flatten hs hown.1 ⟨nb, 0, none⟩ 1 1 r hx (by rw [hrk]; omega) ?_ hone (by unfold maxLen; omega) hlen hB ?_
  · intro j u hj
    have := hr.cell j hj
    cases j <;> simpa [Addr.add] using this
  · intro v' w' hown' hg _
    have hO : OwnR w' B e k v' (L ++ [r]) := ⟨by simpa using hown', fun q hq => by
      rcases List.mem_append.1 hq with h1 | h1
      · exact hown.2 q h1
      · rw [List.mem_singleton.1 h1]; exact hrk⟩
    obtain ⟨g, c, rfl⟩ := own_some hO
    exact h g c w' hO (effE_of_grown hown hg)
/-- clauses of a call's own, from block B on, their numbers from block A on -/
def ClausesOwn (w : World) (A B : Nat) (v : Value) (l : List ClauseD) : Prop :=
  ∃ L, OwnR w B 67 6 v L ∧ L.length = l.length ∧ ∀ i, i < l.length → ∃ nv bv, L.getD i [] = clauseC (l.getD i clause0) nv bv ∧ IntsIn (frmY A 3 w) nv (l.getD i clause0).needs ∧ IntsIn (frmY A 3 w) bv (l.getD i clause0).bars
theorem ClausesOwn.nil (w : World) (A B : Nat) : ClausesOwn w A B (.slice none 0 0) [] := ⟨[], OwnR.nil _ _ _ _, rfl, fun i hi => by simp at hi⟩
theorem ClausesOwn.later {w w' : World} {A B : Nat} {v : Value} {l : List ClauseD} (h : ClausesOwn w A B v l) (hb : Below w.heap.size w w') : ClausesOwn w' A B v l := by
  obtain ⟨L, h1, h2, h3⟩ := h
  exact ⟨L, h1.later' hb, h2, fun i hi => let ⟨nv, bv, e, hn, hc⟩ := h3 i hi; ⟨nv, bv, e, hn.keeps (keeps_frmY_below hb), hc.keeps (keeps_frmY_below hb)⟩⟩
theorem ClausesOwn.form {w : World} {A B : Nat} {v : Value} {l : List ClauseD} (h : ClausesOwn w A B v l) : ∃ a c, v = .slice a l.length c := by
  obtain ⟨L, hOR, hl, -⟩ := h
  rcases hOR.form with ⟨rfl, e2⟩ | ⟨g, c, cur, rfl, -⟩
  · exact ⟨none, 0, by rw [← hl, e2]; rfl⟩
  · exact ⟨_, c, by rw [hl]⟩
/-- what leaves slices of clauses and of integers as they were -/
theorem ClausesOwn.kept {w w' : World} {A B : Nat} {v : Value} {l : List ClauseD} {B' O : Nat} {e to : TypeId} {vs : List Value} (h : ClausesOwn w A B v l) (hE : EffY B' e O w w') (hO : Blk w O vs to) (h1 : to ≠ 3) (h2 : 3 ≠ e) (h3 : to ≠ 67) (h4 : e ≠ 67) : ClausesOwn w' A B v l := by
  obtain ⟨L, ⟨⟨k1, k2⟩, k3⟩, k4, k5⟩ := h
  refine ⟨L, ⟨⟨k1, k2.imp id ?_⟩, k3⟩, k4, fun i hi => let ⟨nv, bv, e, hn, hc⟩ := k5 i hi; ⟨nv, bv, e, hn.keeps (keeps_frmY_effY hE hO h1 h2), hc.keeps (keeps_frmY_effY hE hO h1 h2)⟩⟩
  rintro ⟨g, cap, cur, e1, e2, e3, e4⟩
  refine ⟨g, cap, cur, e1, e2, ?_, e4⟩
  refine (hE.block g (Array.getElem?_eq_some_iff.1 e3).1 ?_ (.inr fun cur' m hc => ?_)).trans e3
  · rintro rfl
    have := (show w.heap[g]? = _ from hO).symm.trans e3
    simp at this; exact h3 this.2
  · rw [e3] at hc
    simp at hc; exact h4 hc.2.1.symm
theorem OwnR.kept {w w' : World} {B k : Nat} {et : TypeId} {v : Value} {L : List (List Value)} {B' O : Nat} {e to : TypeId} {vs : List Value} (h : OwnR w B et k v L) (hE : EffY B' e O w w') (hO : Blk w O vs to) (h3 : to ≠ et) (h4 : e ≠ et) : OwnR w' B et k v L := by
  obtain ⟨⟨k1, k2⟩, k3⟩ := h
  refine ⟨⟨k1, k2.imp id ?_⟩, k3⟩
  rintro ⟨g, cap, cur, e1, e2, e3, e4⟩
  refine ⟨g, cap, cur, e1, e2, ?_, e4⟩
  refine (hE.block g (Array.getElem?_eq_some_iff.1 e3).1 ?_ (.inr fun cur' m hc => ?_)).trans e3
  · rintro rfl
    have := (show w.heap[g]? = _ from hO).symm.trans e3
    simp at this; exact h3 this.2
  · rw [e3] at hc
    simp at hc; exact h4 hc.2.1.symm
theorem ClausesOwn.at {w : World} {A B C : Nat} {v : Value} {l : List ClauseD} (h : ClausesOwn w A B v l) (hA : C ≤ A) (hB : C ≤ B) : ClausesIn (frm C w) v l := by
  obtain ⟨L, hOR, hl, hs⟩ := h
  rcases hOR.form with ⟨rfl, e2⟩ | ⟨g, c, cur, rfl, e1, e2, e3, e4⟩
  · rw [e2] at hl
    exact ⟨none, 0, by rw [← hl]; rfl, by rw [← hl]; simp, by omega, fun k hk => by rw [← hl] at hk; simp at hk⟩
  · refine ⟨some ⟨g, 0, none⟩, c, by rw [hl], by omega, by simpa [maxLen] using e4, fun k hk => ?_⟩
    obtain ⟨nv, bv, e, hn, hc⟩ := hs k hk
    have cc : ∀ (j : Nat) (u : Value), j < 6 → (clauseC (l.getD k clause0) nv bv)[j]? = some u → frm C w ⟨g, 0 + k * 6 + j, none⟩ = some u := fun j u hj hu => by
      rw [Nat.zero_add]; exact frm_pos (by omega) (hOR.cell k j (by omega) hj (by rw [e]; exact hu))
    exact ⟨g, 0, nv, bv, rfl, cc 0 _ (by omega) rfl, cc 1 _ (by omega) rfl, cc 2 _ (by omega) rfl, cc 3 _ (by omega) rfl, cc 4 _ (by omega) rfl, cc 5 _ (by omega) rfl, (hn.keeps (keeps_frmY _ _ _)).keeps (keeps_frm_le _ hA), (hc.keeps (keeps_frmY _ _ _)).keeps (keeps_frm_le _ hA)⟩
/-- a further clause -/
theorem clauses_app {w' : World} {A B : Nat} {v' : Value} {l : List ClauseD} {w : World} {B' O : Nat} {e to : TypeId} {vs : List Value} {L : List (List Value)} {x : ClauseD} {nv bv : Value} (hL : L.length = l.length)
    (h3 : ∀ i, i < l.length → ∃ nv bv, L.getD i [] = clauseC (l.getD i clause0) nv bv ∧ IntsIn (frmY A 3 w) nv (l.getD i clause0).needs ∧ IntsIn (frmY A 3 w) bv (l.getD i clause0).bars)
    (hE : EffY B' e O w w') (hO : Blk w O vs to) (h1 : to ≠ 3) (h2 : 3 ≠ e)
    (hn : IntsIn (frmY A 3 w') nv x.needs) (hb : IntsIn (frmY A 3 w') bv x.bars) (h' : OwnR w' B 67 6 v' (L ++ [clauseC x nv bv])) : ClausesOwn w' A B v' (l ++ [x]) := by
  have hk := keeps_frmY_effY (B' := A) hE hO h1 h2
  refine ⟨_, h', by simp [hL], fun i hi => ?_⟩
  rcases Nat.lt_or_ge i l.length with h1 | h1
  · obtain ⟨nv, bv, e, hc, hd⟩ := h3 i h1
    refine ⟨nv, bv, ?_, ?_, ?_⟩
    · rw [getD_app_left _ _ _ _ (by rw [hL]; exact h1), getD_app_left _ _ _ _ h1]; exact e
    · rw [getD_app_left _ _ _ _ h1]; exact hc.keeps hk
    · rw [getD_app_left _ _ _ _ h1]; exact hd.keeps hk
  · have hi' : i = l.length := by simp at hi; omega
    subst hi'
    rw [getD_app_right _ _ _ _ (by rw [hL]; exact Nat.le_refl _), getD_app_right _ _ _ _ (Nat.le_refl _), hL, Nat.sub_self]
    exact ⟨nv, bv, rfl, hn, hb⟩
/-- laws of a call's own -/
structure CodeOwn (w : World) (A B : Nat) (cv rv fv : Value) (c : CodeD) : Prop where
  cl : ClausesOwn w A B cv c.clauses
  re : OwnR w B 60 3 rv (c.repeals.map repealC)
  fa : OwnR w B 74 6 fv (c.facts.map factC)
theorem CodeOwn.later {w w' : World} {A B : Nat} {cv rv fv : Value} {c : CodeD} (h : CodeOwn w A B cv rv fv c) (hb : Below w.heap.size w w') : CodeOwn w' A B cv rv fv c := ⟨h.cl.later hb, h.re.later' hb, h.fa.later' hb⟩
theorem CodeOwn.at {w : World} {A B C : Nat} {cv rv fv : Value} {c : CodeD} (h : CodeOwn w A B cv rv fv c) (hA : C ≤ A) (hB : C ≤ B) : CodeIn (frm C w) cv rv fv c :=
  ⟨h.cl.at hA hB, RecIn.of_own h.re (fun _ => rfl) hB, RecIn.of_own h.fa (fun _ => rfl) hB⟩
/-- the call returns laws of its own -/
def CodeQ (c : CodeD) (w : World) (e : Ending) (w' : World) : Prop := ∃ cv rv fv B, e = .returned (codeV cv rv fv) ∧ w.heap.size ≤ B ∧ B ≤ w'.heap.size ∧ CodeOwn w' w.heap.size B cv rv fv c ∧ Below w.heap.size w w'
theorem infoClause : (Tryz.prog.info? 67).map (fun i => (i.zero, i.size, i.bytes)) = some (some (.agg #[.int .i64 0, .int .i64 0, .int .i64 0, .slice none 0 0, .slice none 0 0, .int .i64 0]), 6, 80) := by kernel_rfl
theorem infoRepeal : (Tryz.prog.info? 60).map (fun i => (i.zero, i.size, i.bytes)) = some (some (.agg #[.int .i64 0, .int .i64 0, .int .i64 0]), 3, 24) := by kernel_rfl
theorem infoFact : (Tryz.prog.info? 74).map (fun i => (i.zero, i.size, i.bytes)) = some (some (.agg #[.int .i64 0, .int .i64 0, .int .i64 0, .int .i64 0, .int .i64 0, .int .i64 0]), 6, 48) := by kernel_rfl
theorem clauseC_one {x : ClauseD} {a b : Option Addr} {n m c d : Nat} : ∀ u ∈ clauseC x (.slice a n c) (.slice b m d), u.oneCell' = true := by
  intro u hu; simp only [clauseC, List.mem_cons, List.not_mem_nil, or_false] at hu; rcases hu with rfl | rfl | rfl | rfl | rfl | rfl <;> rfl
theorem repealC_one {x : RepealD} : ∀ u ∈ repealC x, u.oneCell' = true := by
  intro u hu; simp only [repealC, List.mem_cons, List.not_mem_nil, or_false] at hu; rcases hu with rfl | rfl | rfl <;> rfl
theorem factC_one {x : FactD} : ∀ u ∈ factC x, u.oneCell' = true := by
  intro u hu; simp only [factC, List.mem_cons, List.not_mem_nil, or_false] at hu; rcases hu with rfl | rfl | rfl | rfl | rfl | rfl <;> rfl
end Go.Proofs.YtdjldidfnddpmaaGreat
