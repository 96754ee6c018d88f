/- The walk of the reference's Made: its first loop. Conditions: how the arguments lie in memory; that integers are of 64 bits. -/
import Derived.Test.YtdjldidfnddpmaaGreatDoorSwB
import Derived.Deep.RegionLawGrows
/- Laws that a call itself makes; appends of one record in a region that draws its order. No condition. -/
namespace Go.Proofs.YtdjldidfnddpmaaGreatDoor
open Go.RowKit

/-- what an append to a slice of the call's own, and a box that is written, leave as they were -/
structure EffY (B : Nat) (e : TypeId) (O : Nat) (w w' : World) : Prop where
  os : w'.os = w.os
  tape : w'.tape = w.tape
  output : w'.output = w.output
  size : w.heap.size ≤ w'.heap.size
  block : ∀ b, b < w.heap.size → b ≠ O → (b < B ∨ NotE e w b) → w'.heap[b]? = w.heap[b]?
theorem effE_of_grown {W w' : World} {B : Nat} {e : TypeId} {k : Nat} {v : Value} {L : List (List Value)} (hown : OwnR W B e k v L) (hg : W.grownBy w' v.ownBlock) : EffE B e W w' := by
  refine ⟨hg.os, hg.tape, hg.output, hg.size, fun b hb hn => hg.block b hb ?_⟩
  intro he
  rcases hown.form with ⟨h2, -⟩ | ⟨g', c', cur, h2, h3, h4, -⟩
  · rw [h2] at he; cases he
  · rw [h2] at he; cases he
    rcases hn with hn | hn
    · have hn' : g' < B := hn
      omega
    · exact hn _ _ h4
theorem EffE.toY {B : Nat} {e : TypeId} {O j : Nat} {w w' : World} (h : EffE B e w w') (u : Value) : EffY B e O w (w'.setCell ⟨O, j, none⟩ u) :=
  ⟨h.os, h.tape, h.output, by simpa [World.setCell] using h.size, fun b hb hO hn => (Below.heap_setCell w' ⟨O, j, none⟩ u b hO).trans (h.block b hb hn)⟩
theorem EffY.below {B : Nat} {e : TypeId} {O C : Nat} {w w' : World} (h : EffY B e O w w') (hB : C ≤ B) (hO : C ≤ O) (hw : C ≤ w.heap.size) : Below C w w' :=
  ⟨h.os, h.tape, h.output, h.size, fun k hk => h.block k (by omega) (by omega) (.inl (by omega))⟩
theorem EffY.blk {B : Nat} {e : TypeId} {O : Nat} {w w' : World} (h : EffY B e O w w') {b : Nat} {vs : List Value} {t : TypeId} (hb : Blk w b vs t) (hO : b ≠ O) (hte : t ≠ e) : Blk w' b vs t :=
  (h.block b hb.lt hO (.inr (hb.notE hte))).trans hb
theorem OwnR.setO {W : World} {B O j : Nat} {e : TypeId} {k : Nat} {v : Value} {L : List (List Value)} {vs : List Value} {t : TypeId} (h : OwnR W B e k v L) (hO : Blk W O vs t) (hte : t ≠ e) (u : Value) : OwnR (W.setCell ⟨O, j, none⟩ u) B e k v L := by
  obtain ⟨⟨h1, h2⟩, h3⟩ := h
  refine ⟨⟨h1, h2.imp id ?_⟩, h3⟩
  rintro ⟨g, cap, cur, e1, e2, e3, e4⟩
  refine ⟨g, cap, cur, e1, e2, ?_, e4⟩
  refine (Below.heap_setCell W ⟨O, j, none⟩ u g ?_).trans e3
  show g ≠ O
  rintro rfl
  have := (show W.heap[g]? = _ from hO).symm.trans e3
  simp at this; exact hte this.2
theorem own_some {W : World} {B : Nat} {e : TypeId} {k : Nat} {v : Value} {L : List (List Value)} {x : List Value} (h : OwnR W B e k v (L ++ [x])) : ∃ g c, v = .slice (some ⟨g, 0, none⟩) (L.length + 1) c := by
  rcases h.form with ⟨-, h2⟩ | ⟨g, c, cur, h1, -⟩
  · simp at h2
  · exact ⟨g, c, by rw [h1]; simp⟩
theorem news2 {W : World} {b0 : Nat} {r : List Value} {t : TypeId} (h : Blk W b0 r t) : ∀ b, (some ⟨b0, 0, none⟩ : Option Addr) = some b → ∀ j u, [r].flatten[j]? = some u → W.cell? (b.add j) = some u := fun b hb j u hj => by
  cases hb
  have h9 := h.cell j (by simpa using hj)
  cases j <;> simpa [Addr.add] using h9

theorem EffY.of_below {B : Nat} {e : TypeId} {O : Nat} {w w' : World} (h : Below w.heap.size w w') : EffY B e O w w' := ⟨h.os, h.tape, h.output, h.size, fun b hb _ _ => h.block b hb⟩
theorem NotE.back {e : TypeId} {w w' : World} {b : Nat} (h : NotE e w b) (he : w'.heap[b]? = w.heap[b]?) : NotE e w' b := fun cur m hc => h cur m (by rw [← he]; exact hc)
theorem EffY.trans {B : Nat} {e : TypeId} {O : Nat} {a b c : World} (h : EffY B e O a b) (k : EffY B e O b c) : EffY B e O a c :=
  ⟨k.os.trans h.os, k.tape.trans h.tape, k.output.trans h.output, Nat.le_trans h.size k.size, fun i hi hO hn => by
    have h1 := h.block i hi hO hn
    rw [k.block i (Nat.lt_of_lt_of_le hi h.size) hO (hn.imp id fun hn => hn.back h1), h1]⟩
theorem EffY.then {B : Nat} {e : TypeId} {O : Nat} {a b c : World} (h : EffY B e O a b) (k : Below b.heap.size b c) : EffY B e O a c := h.trans (EffY.of_below k)
theorem EffY.app {B : Nat} {e : TypeId} {O : Nat} {a b c : World} (h : EffY B e O a b) (k : EffE B e b c) : EffY B e O a c := h.trans ⟨k.os, k.tape, k.output, k.size, fun i hi _ hn => k.block i hi hn⟩
theorem EffY.set {B : Nat} {e : TypeId} {O : Nat} {a b : World} (h : EffY B e O a b) (j : Nat) (u : Value) : EffY B e O a (b.setCell ⟨O, j, none⟩ u) :=
  ⟨h.os, h.tape, h.output, by simpa [World.setCell] using h.size, fun i hi hO hn => (Below.heap_setCell b ⟨O, j, none⟩ u i hO).trans (h.block i hi hO hn)⟩
theorem EffY.cell {B : Nat} {e : TypeId} {O : Nat} {w w' : World} (h : EffY B e O w w') {b : Nat} {vs : List Value} {t : TypeId} (hb : Blk w b vs t) (hO : b ≠ O) (hte : t ≠ e) (i : Nat) {v : Value} (hv : vs[i]? = some v) : w'.cell? ⟨b, i, none⟩ = some v := (h.blk hb hO hte).cell i hv
theorem keeps_frmY_effY {B B' O : Nat} {e t to : TypeId} {w w' : World} {vs : List Value} (h : EffY B e O w w') (hO : Blk w O vs to) (hto : to ≠ t) (hte : t ≠ e) : Keeps (frmY B' t w) (frmY B' t w') :=
  keeps_frmY_later fun k _ hk ht => h.block k hk (fun ek => by
    subst ek
    unfold typ at ht
    rw [show w.heap[k]? = _ from hO] at ht
    simp at ht; exact hto ht) (.inr fun cur m hc => by
    unfold typ at ht; rw [hc] at ht; simp at ht; exact hte ht.symm)
theorem keeps_low_effY {B O : Nat} {e : TypeId} {w0 w w' : World} (h : EffY B e O w w') (hB : w0.heap.size ≤ B) (hO : w0.heap.size ≤ O) (hw : Below w0.heap.size w0 w) : Below w0.heap.size w0 w' :=
  hw.trans (h.below hB hO hw.size)
/-- an append of one record, in a region that draws its order -/
theorem step_one {W : World} {ops : Array Oper} {o : Oper} {T : Array Value} {D : List Deferred} {K : Act → World → Prop} {Q : Exit → Act → World → Prop} {E : Prop} {e t : TypeId} {k by_ : Nat} {z : Value}
    (hinfo : (Tryz.prog.info? e).map (fun i => (i.zero, i.size, i.bytes)) = some (some z, k, by_)) (hzk : z.cells.size = k) (hk : 0 < k) (hu : Tryz.prog.underlying t = some (.slice e)) (hgd : o.guard = none) (s x : Operand)
    (ho : o.op = .call { callee := .builtin .append, args := #[s, x], argTypes := #[t, t] }) (B : Nat) (v : Value) (L : List (List Value)) (hs : Act.eval ⟨T, D⟩ s = v) (hown : OwnR W B e k v L)
    (nb : Nat) (r : List Value) (hx : Act.eval ⟨T, D⟩ x = .slice (some ⟨nb, 0, none⟩) 1 1) (hr : Blk W nb r e) (hrk : r.length = k) (hone : ∀ u ∈ r, u.oneCell' = true)
    (hlen : (L.length + 1) * by_ ≤ 140737488355328) (hlen2 : L.length + 1 < 1000000) (hB : B ≤ W.heap.size)
    (h : ∀ g c w', OwnR w' B e k (.slice (some ⟨g, 0, none⟩) (L.length + 1) c) (L ++ [r]) → EffE B e W w' → K (Act.put ⟨T, D⟩ o.dst (.slice (some ⟨g, 0, none⟩) (L.length + 1) c)) w') :
    if Region.wanted o (yielded ops T) = true then Oper.wp Tryz.prog o ⟨T, D⟩ W K Q else E := by
  have hw : Region.wanted o (yielded ops T) = true := by simp [Region.wanted, hgd]
  have hw' : Region.wanted o (yielded ops (Act.tmps ⟨T, D⟩)) = true := hw
  rw [if_pos hw]
  obtain ⟨i0, hi, hz0, hz1, hz2⟩ := info_parts hinfo
  refine wp_append_own _ s x t ho B e i0 z k by_ hu hi hz0 hz1 hz2 hzk hk v L.length L.flatten hs hown.1 ⟨nb, 0, none⟩ 1 1 r hx (by rw [hrk]; omega) ?_ hone (by unfold maxLen; omega) hlen hB ?_
  · intro j u hj
    have := hr.cell j hj
    cases j <;> simpa [Addr.add] using this
  · intro v' w' hown' hg _
    have hO : OwnR w' B e k v' (L ++ [r]) := ⟨by simpa using hown', fun q hq => by
      rcases List.mem_append.1 hq with h1 | h1
      · exact hown.2 q h1
      · rw [List.mem_singleton.1 h1]; exact hrk⟩
    obtain ⟨g, c, rfl⟩ := own_some hO
    exact h g c w' hO (effE_of_grown hown hg)
/-- clauses of a call's own, from block B on, their numbers from block A on -/
def ClausesOwn (w : World) (A B : Nat) (v : Value) (l : List ClauseD) : Prop :=
  ∃ L, OwnR w B 38 6 v L ∧ L.length = l.length ∧ ∀ i, i < l.length → ∃ nv bv, L.getD i [] = clauseC (l.getD i clause0) nv bv ∧ IntsIn (frmY A 3 w) nv (l.getD i clause0).needs ∧ IntsIn (frmY A 3 w) bv (l.getD i clause0).bars
theorem ClausesOwn.nil (w : World) (A B : Nat) : ClausesOwn w A B (.slice none 0 0) [] := ⟨[], OwnR.nil _ _ _ _, rfl, fun i hi => by simp at hi⟩
theorem ClausesOwn.later {w w' : World} {A B : Nat} {v : Value} {l : List ClauseD} (h : ClausesOwn w A B v l) (hb : Below w.heap.size w w') : ClausesOwn w' A B v l := by
  obtain ⟨L, h1, h2, h3⟩ := h
  exact ⟨L, h1.later' hb, h2, fun i hi => let ⟨nv, bv, e, hn, hc⟩ := h3 i hi; ⟨nv, bv, e, hn.keeps (keeps_frmY_below hb), hc.keeps (keeps_frmY_below hb)⟩⟩
theorem ClausesOwn.form {w : World} {A B : Nat} {v : Value} {l : List ClauseD} (h : ClausesOwn w A B v l) : ∃ a c, v = .slice a l.length c := by
  obtain ⟨L, hOR, hl, -⟩ := h
  rcases hOR.form with ⟨rfl, e2⟩ | ⟨g, c, cur, rfl, -⟩
  · exact ⟨none, 0, by rw [← hl, e2]; rfl⟩
  · exact ⟨_, c, by rw [hl]⟩
/-- what leaves slices of clauses and of integers as they were -/
theorem ClausesOwn.kept {w w' : World} {A B : Nat} {v : Value} {l : List ClauseD} {B' O : Nat} {e to : TypeId} {vs : List Value} (h : ClausesOwn w A B v l) (hE : EffY B' e O w w') (hO : Blk w O vs to) (h1 : to ≠ 3) (h2 : 3 ≠ e) (h3 : to ≠ 38) (h4 : e ≠ 38) : ClausesOwn w' A B v l := by
  obtain ⟨L, ⟨⟨k1, k2⟩, k3⟩, k4, k5⟩ := h
  refine ⟨L, ⟨⟨k1, k2.imp id ?_⟩, k3⟩, k4, fun i hi => let ⟨nv, bv, e, hn, hc⟩ := k5 i hi; ⟨nv, bv, e, hn.keeps (keeps_frmY_effY hE hO h1 h2), hc.keeps (keeps_frmY_effY hE hO h1 h2)⟩⟩
  rintro ⟨g, cap, cur, e1, e2, e3, e4⟩
  refine ⟨g, cap, cur, e1, e2, ?_, e4⟩
  refine (hE.block g (Array.getElem?_eq_some_iff.1 e3).1 ?_ (.inr fun cur' m hc => ?_)).trans e3
  · rintro rfl
    have := (show w.heap[g]? = _ from hO).symm.trans e3
    simp at this; exact h3 this.2
  · rw [e3] at hc
    simp at hc; exact h4 hc.2.1.symm
theorem OwnR.kept {w w' : World} {B k : Nat} {et : TypeId} {v : Value} {L : List (List Value)} {B' O : Nat} {e to : TypeId} {vs : List Value} (h : OwnR w B et k v L) (hE : EffY B' e O w w') (hO : Blk w O vs to) (h3 : to ≠ et) (h4 : e ≠ et) : OwnR w' B et k v L := by
  obtain ⟨⟨k1, k2⟩, k3⟩ := h
  refine ⟨⟨k1, k2.imp id ?_⟩, k3⟩
  rintro ⟨g, cap, cur, e1, e2, e3, e4⟩
  refine ⟨g, cap, cur, e1, e2, ?_, e4⟩
  refine (hE.block g (Array.getElem?_eq_some_iff.1 e3).1 ?_ (.inr fun cur' m hc => ?_)).trans e3
  · rintro rfl
    have := (show w.heap[g]? = _ from hO).symm.trans e3
    simp at this; exact h3 this.2
  · rw [e3] at hc
    simp at hc; exact h4 hc.2.1.symm
theorem ClausesOwn.at {w : World} {A B C : Nat} {v : Value} {l : List ClauseD} (h : ClausesOwn w A B v l) (hA : C ≤ A) (hB : C ≤ B) : ClausesIn (frm C w) v l := by
  obtain ⟨L, hOR, hl, hs⟩ := h
  rcases hOR.form with ⟨rfl, e2⟩ | ⟨g, c, cur, rfl, e1, e2, e3, e4⟩
  · rw [e2] at hl
    exact ⟨none, 0, by rw [← hl]; rfl, by rw [← hl]; simp, by omega, fun k hk => by rw [← hl] at hk; simp at hk⟩
  · refine ⟨some ⟨g, 0, none⟩, c, by rw [hl], by omega, by simpa [maxLen] using e4, fun k hk => ?_⟩
    obtain ⟨nv, bv, e, hn, hc⟩ := hs k hk
    have cc : ∀ (j : Nat) (u : Value), j < 6 → (clauseC (l.getD k clause0) nv bv)[j]? = some u → frm C w ⟨g, 0 + k * 6 + j, none⟩ = some u := fun j u hj hu => by
      rw [Nat.zero_add]; exact frm_pos (by omega) (hOR.cell k j (by omega) hj (by rw [e]; exact hu))
    exact ⟨g, 0, nv, bv, rfl, cc 0 _ (by omega) rfl, cc 1 _ (by omega) rfl, cc 2 _ (by omega) rfl, cc 3 _ (by omega) rfl, cc 4 _ (by omega) rfl, cc 5 _ (by omega) rfl, (hn.keeps (keeps_frmY _ _ _)).keeps (keeps_frm_le _ hA), (hc.keeps (keeps_frmY _ _ _)).keeps (keeps_frm_le _ hA)⟩
/-- a further clause -/
theorem clauses_app {w' : World} {A B : Nat} {v' : Value} {l : List ClauseD} {w : World} {B' O : Nat} {e to : TypeId} {vs : List Value} {L : List (List Value)} {x : ClauseD} {nv bv : Value} (hL : L.length = l.length)
    (h3 : ∀ i, i < l.length → ∃ nv bv, L.getD i [] = clauseC (l.getD i clause0) nv bv ∧ IntsIn (frmY A 3 w) nv (l.getD i clause0).needs ∧ IntsIn (frmY A 3 w) bv (l.getD i clause0).bars)
    (hE : EffY B' e O w w') (hO : Blk w O vs to) (h1 : to ≠ 3) (h2 : 3 ≠ e)
    (hn : IntsIn (frmY A 3 w') nv x.needs) (hb : IntsIn (frmY A 3 w') bv x.bars) (h' : OwnR w' B 38 6 v' (L ++ [clauseC x nv bv])) : ClausesOwn w' A B v' (l ++ [x]) := by
  have hk := keeps_frmY_effY (B' := A) hE hO h1 h2
  refine ⟨_, h', by simp [hL], fun i hi => ?_⟩
  rcases Nat.lt_or_ge i l.length with h1 | h1
  · obtain ⟨nv, bv, e, hc, hd⟩ := h3 i h1
    refine ⟨nv, bv, ?_, ?_, ?_⟩
    · rw [getD_app_left _ _ _ _ (by rw [hL]; exact h1), getD_app_left _ _ _ _ h1]; exact e
    · rw [getD_app_left _ _ _ _ h1]; exact hc.keeps hk
    · rw [getD_app_left _ _ _ _ h1]; exact hd.keeps hk
  · have hi' : i = l.length := by simp at hi; omega
    subst hi'
    rw [getD_app_right _ _ _ _ (by rw [hL]; exact Nat.le_refl _), getD_app_right _ _ _ _ (Nat.le_refl _), hL, Nat.sub_self]
    exact ⟨nv, bv, rfl, hn, hb⟩
/-- laws of a call's own -/
structure CodeOwn (w : World) (A B : Nat) (cv rv fv : Value) (c : CodeD) : Prop where
  cl : ClausesOwn w A B cv c.clauses
  re : OwnR w B 63 3 rv (c.repeals.map repealC)
  fa : OwnR w B 49 6 fv (c.facts.map factC)
theorem CodeOwn.later {w w' : World} {A B : Nat} {cv rv fv : Value} {c : CodeD} (h : CodeOwn w A B cv rv fv c) (hb : Below w.heap.size w w') : CodeOwn w' A B cv rv fv c := ⟨h.cl.later hb, h.re.later' hb, h.fa.later' hb⟩
theorem CodeOwn.at {w : World} {A B C : Nat} {cv rv fv : Value} {c : CodeD} (h : CodeOwn w A B cv rv fv c) (hA : C ≤ A) (hB : C ≤ B) : CodeIn (frm C w) cv rv fv c :=
  ⟨h.cl.at hA hB, RecIn.of_own h.re (fun _ => rfl) hB, RecIn.of_own h.fa (fun _ => rfl) hB⟩
/-- the call returns laws of its own -/
def CodeQ (c : CodeD) (w : World) (e : Ending) (w' : World) : Prop := ∃ cv rv fv B, e = .returned (codeV cv rv fv) ∧ w.heap.size ≤ B ∧ B ≤ w'.heap.size ∧ CodeOwn w' w.heap.size B cv rv fv c ∧ Below w.heap.size w w'
theorem infoClause : (Tryz.prog.info? 38).map (fun i => (i.zero, i.size, i.bytes)) = some (some (.agg #[.int .i64 0, .int .i64 0, .int .i64 0, .slice none 0 0, .slice none 0 0, .int .i64 0]), 6, 80) := by kernel_rfl
theorem infoRepeal : (Tryz.prog.info? 63).map (fun i => (i.zero, i.size, i.bytes)) = some (some (.agg #[.int .i64 0, .int .i64 0, .int .i64 0]), 3, 24) := by kernel_rfl
theorem infoFact : (Tryz.prog.info? 49).map (fun i => (i.zero, i.size, i.bytes)) = some (some (.agg #[.int .i64 0, .int .i64 0, .int .i64 0, .int .i64 0, .int .i64 0, .int .i64 0]), 6, 48) := by kernel_rfl
theorem clauseC_one {x : ClauseD} {a b : Option Addr} {n m c d : Nat} : ∀ u ∈ clauseC x (.slice a n c) (.slice b m d), u.oneCell' = true := by
  intro u hu; simp only [clauseC, List.mem_cons, List.not_mem_nil, or_false] at hu; rcases hu with rfl | rfl | rfl | rfl | rfl | rfl <;> rfl
theorem repealC_one {x : RepealD} : ∀ u ∈ repealC x, u.oneCell' = true := by
  intro u hu; simp only [repealC, List.mem_cons, List.not_mem_nil, or_false] at hu; rcases hu with rfl | rfl | rfl <;> rfl
theorem factC_one {x : FactD} : ∀ u ∈ factC x, u.oneCell' = true := by
  intro u hu; simp only [factC, List.mem_cons, List.not_mem_nil, or_false] at hu; rcases hu with rfl | rfl | rfl | rfl | rfl | rfl <;> rfl
end Go.Proofs.YtdjldidfnddpmaaGreatDoor
namespace Go.Proofs.YtdjldidfnddpmaaGreatDoor
open Go.RowKit
def sixC (y : SixD) : List Value := [.int .i64 y.a, .int .i64 y.b, .int .i64 y.c, .int .i64 y.d, .int .i64 y.e, .int .i64 y.f]
def triC (y : Int × Int × Int) : List Value := [.int .i64 y.1, .int .i64 y.2.1, .int .i64 y.2.2]
def six64 (y : SixD) : Prop := i64B y.a ∧ i64B y.b ∧ i64B y.c ∧ i64B y.d ∧ i64B y.e ∧ i64B y.f
def tri64 (y : Int × Int × Int) : Prop := i64B y.1 ∧ i64B y.2.1 ∧ i64B y.2.2
abbrev SixIn (c : Rd) (v : Value) (l : List SixD) : Prop := RecIn sixC six0 6 c v l
abbrev TriIn (c : Rd) (v : Value) (l : List (Int × Int × Int)) : Prop := RecIn triC (0, 0, 0) 3 c v l
structure NumsIn (c : Rd) (xc xr xf : Value) (x : NumsD) : Prop where
  cl : SixIn c xc x.clauses
  re : TriIn c xr x.repeals
  fa : SixIn c xf x.facts
structure Nums64 (x : NumsD) : Prop where
  cl : ∀ y ∈ x.clauses, six64 y
  re : ∀ y ∈ x.repeals, tri64 y
  fa : ∀ y ∈ x.facts, six64 y
theorem NumsIn.below {w W : World} {xc xr xf : Value} {x : NumsD} (h : NumsIn w.cell? xc xr xf x) (hb : Below w.heap.size w W) : NumsIn W.cell? xc xr xf x := ⟨h.cl.below hb, h.re.below hb, h.fa.below hb⟩
theorem take_map_succ {α β : Type} (f : α → β) (l : List α) (d : α) {k : Nat} (h : k < l.length) : (l.take (k + 1)).map f = (l.take k).map f ++ [f (l.getD k d)] := by
  rw [take_succ' l k d h, List.map_append]; rfl
theorem own_form {w : World} {B k : Nat} {e : TypeId} {v : Value} {L : List (List Value)} (h : OwnR w B e k v L) : ∃ a c, v = .slice a L.length c := by
  rcases h.form with ⟨rfl, e2⟩ | ⟨g, c, cur, rfl, -⟩
  · exact ⟨none, 0, by rw [e2]; rfl⟩
  · exact ⟨_, c, rfl⟩
/-- the loops of a code, the outer ones first -/
def loopsOf : Code → List Code
  | .loop c => c :: loopsOf c
  | .seq a b => loopsOf a ++ loopsOf b
  | .block _ c => loopsOf c
  | .scope c => loopsOf c
  | .cond _ a b => loopsOf a ++ loopsOf b
  | _ => []
noncomputable def madeLoop1 : Code := (Tryz.f5.body.bind fun c => (loopsOf c)[0]?).getD .skip
noncomputable def madeLoop2 : Code := (Tryz.f5.body.bind fun c => (loopsOf c)[1]?).getD .skip
noncomputable def madeLoop3 : Code := (Tryz.f5.body.bind fun c => (loopsOf c)[2]?).getD .skip

set_option maxRecDepth 100000 in
set_option maxHeartbeats 4000000 in
theorem made_loop1 (w W0 : World) (x : NumsD) (xca xra xfa : Option Addr) (xcn xrn xfn : Nat) (HX : Hid (NumsIn w.cell? (.slice xca x.clauses.length xcn) (.slice xra x.repeals.length xrn) (.slice xfa x.facts.length xfn) x)) (H64 : Hid (Nums64 x)) (hcl : (x.clauses.length : Int) ≤ 9223372036854775807)
    (bN : Blk W0 w.heap.size [.slice xca x.clauses.length xcn, .slice xra x.repeals.length xrn, .slice xfa x.facts.length xfn] 25) (bR : Blk W0 (w.heap.size + 1) [.slice none 0 0, .slice none 0 0, .slice none 0 0] 32)
    (bC : Blk W0 (w.heap.size + 1 + 1) [.slice none 0 0, .slice none 0 0, .slice none 0 0] 32) (Xb : Below w.heap.size w W0) (hX : w.heap.size + 1 + 1 + 1 ≤ W0.heap.size) (Q0 : Exit → Act → World → Prop) (u0 u5 u6 u7 u8 u9 u10 u11 u12 u13 u14 u15 u16 u17 u18 u19 u20 u21 u22 u23 u24 u25 u26 u27 u28 u29 u30 u31 u32 u33 u34 u35 u36 u37 u38 u39 u40 u41 u42 u43 u44 u45 u46 u47 u48 u49 u50 u51 u52 u53 u54 u55 u56 u57 u58 u59 u60 u61 u62 u63 u64 u65 u66 u67 u68 u69 u70 u71 u72 u73 u74 u75 u76 u77 u78 u79 u80 u81 u82 u83 u84 u85 u86 u87 u88 u89 u90 u91 u92 u93 u94 u95 u96 u97 u98 u99 u100 u101 u102 u103 u104 u105 u106 u107 u108 u109 u110 u111 u112 u113 u114 u115 u116 u117 u118 u119 u120 u121 u122 u123 u124 u125 u126 u127 u128 u129 u130 u131 : Value)
    (hexit : ∀ (t4 t5 t6 t11 t12 t13 t14 t15 t16 t17 t18 t19 t20 t21 t22 t23 t24 t25 t26 t27 t28 t29 t30 t31 t32 t33 t34 t35 t36 t37 t38 t39 t40 t41 t42 t43 t44 t45 t46 t47 t48 t49 t50 t51 t52 : Value) (wr : World) (cv : Value), ClausesOwn wr w.heap.size (w.heap.size + 1 + 1 + 1) cv ((x.clauses.take 8).map madeClause) →
      Blk wr (w.heap.size + 1 + 1) [cv, .slice none 0 0, .slice none 0 0] 32 → Blk wr w.heap.size [.slice xca x.clauses.length xcn, .slice xra x.repeals.length xrn, .slice xfa x.facts.length xfn] 25 →
      Blk wr (w.heap.size + 1) [.slice none 0 0, .slice none 0 0, .slice none 0 0] 32 → Below w.heap.size w wr → w.heap.size + 1 + 1 + 1 ≤ wr.heap.size →
      Q0 (.exit 0) ⟨#[u0, .pointer (some ⟨w.heap.size, 0, none⟩), .pointer (some ⟨w.heap.size + 1, 0, none⟩), .pointer (some ⟨w.heap.size + 1 + 1, 0, none⟩), t4, t5, t6, u7, u8, u9, u10, t11, t12, t13, t14, t15, t16, t17, t18, t19, t20, t21, t22, t23, t24, t25, t26, t27, t28, t29, t30, t31, t32, t33, t34, t35, t36, t37, t38, t39, t40, t41, t42, t43, t44, t45, t46, t47, t48, t49, t50, t51, t52, u53, u54, u55, u56, u57, u58, u59, u60, u61, u62, u63, u64, u65, u66, u67, u68, u69, u70, u71, u72, u73, u74, u75, u76, u77, u78, u79, u80, u81, u82, u83, u84, u85, u86, u87, u88, u89, u90, u91, u92, u93, u94, u95, u96, u97, u98, u99, u100, u101, u102, u103, u104, u105, u106, u107, u108, u109, u110, u111, u112, u113, u114, u115, u116, u117, u118, u119, u120, u121, u122, u123, u124, u125, u126, u127, u128, u129, u130, u131], []⟩ wr) :
    Code.wp Tryz.prog (Code.loop madeLoop1) Q0 ⟨#[u0, .pointer (some ⟨w.heap.size, 0, none⟩), .pointer (some ⟨w.heap.size + 1, 0, none⟩), .pointer (some ⟨w.heap.size + 1 + 1, 0, none⟩), .int .i64 0, u5, u6, u7, u8, u9, u10, u11, u12, u13, u14, u15, u16, u17, u18, u19, u20, u21, u22, u23, u24, u25, u26, u27, u28, u29, u30, u31, u32, u33, u34, u35, u36, u37, u38, u39, u40, u41, u42, u43, u44, u45, u46, u47, u48, u49, u50, u51, u52, u53, u54, u55, u56, u57, u58, u59, u60, u61, u62, u63, u64, u65, u66, u67, u68, u69, u70, u71, u72, u73, u74, u75, u76, u77, u78, u79, u80, u81, u82, u83, u84, u85, u86, u87, u88, u89, u90, u91, u92, u93, u94, u95, u96, u97, u98, u99, u100, u101, u102, u103, u104, u105, u106, u107, u108, u109, u110, u111, u112, u113, u114, u115, u116, u117, u118, u119, u120, u121, u122, u123, u124, u125, u126, u127, u128, u129, u130, u131], []⟩ W0 := by
  conv => arg 2; arg 1; whnf
  dsimp only
  go_loopw [4] (fun i wr => ∃ (k : Nat) (cv : Value), k ≤ min x.clauses.length 8 ∧ i = .int .i64 k ∧ ClausesOwn wr w.heap.size (w.heap.size + 1 + 1 + 1) cv ((x.clauses.take k).map madeClause) ∧ Blk wr (w.heap.size + 1 + 1) [cv, .slice none 0 0, .slice none 0 0] 32 ∧ Blk wr w.heap.size [.slice xca x.clauses.length xcn, .slice xra x.repeals.length xrn, .slice xfa x.facts.length xfn] 25 ∧ Blk wr (w.heap.size + 1) [.slice none 0 0, .slice none 0 0, .slice none 0 0] 32 ∧ Below w.heap.size w wr ∧ w.heap.size + 1 + 1 + 1 ≤ wr.heap.size) (fun i _ => min x.clauses.length 8 - (intOf i).toNat)
  case atStart => exact ⟨0, _, by omega, rfl, ClausesOwn.nil _ _ _, bC, bN, bR, Xb, hX⟩
  case round =>
    obtain ⟨k, cv, hk, rfl, hown, hbC, hbN, hbR, hbr, hsz⟩ := hrel
    have n0 := hbN.cell 0 rfl
    by_cases hlt : k < min x.clauses.length 8
    · have hkl : k < x.clauses.length := by omega
      have hk8 : (k : Int) < 8 := by omega
      have hklI : (k : Int) < x.clauses.length := by omega
      have hk7 : k < 8 := by omega
      obtain ⟨b, o, e, hck⟩ := (HX.out.cl.below hbr).cell hkl
      cases e
      have hy64 := H64.out.cl _ (getD_mem x.clauses k (d := six0) hkl)
      have HTK := hide (take_map_succ madeClause x.clauses six0 hkl)
      have HLN : Hid (((x.clauses.take k).map madeClause).length ≤ 8) := hide (by rw [List.length_map, List.length_take]; omega)
      generalize x.clauses.getD k six0 = y at hck hy64 HTK
      have c0 := hck 0 _ rfl
      have c1 := hck 1 _ rfl
      have c2 := hck 2 _ rfl
      have c3 := hck 3 _ rfl
      have c4 := hck 4 _ rfl
      have c5 := hck 5 _ rfl
      rw [Nat.add_zero] at c0
      obtain ⟨y1, y2, y3, y4, y5, y6⟩ := hy64
      have HPG := hide (fun W => pickr_any y.d 8 W y4.1 y4.2 (by decide) (by decide))
      have HP0 := hide (fun W => pickr_any y.a 80 W y1.1 y1.2 (by decide) (by decide))
      have HPA := hide (fun W => partr_any y.b y.c W y2 y3)
      obtain ⟨hg0, hg1⟩ := pkF_bd (n := 8) (by decide) y.d
      have HB1 := hide (fun W => bitsr_any y.e (pkF y.d 8) W y5 hg0 (by omega))
      have HB2 := hide (fun W => bitsr_any y.f (pkF y.d 8) W y6 hg0 (by omega))
      have HMC : Hid (madeClause y = ⟨pkF y.a 80, pkF y.b 50, partL y.b y.c, bitsK y.e (pkF y.d 8).toNat, bitsK y.f (pkF y.d 8).toNat, pkF y.d 8⟩) := hide rfl
      generalize madeClause y = Y at HMC HTK
      generalize pkF y.a 80 = P0 at *
      generalize pkF y.b 50 = S0 at *
      generalize partL y.b y.c = S1 at *
      generalize bitsK y.e (pkF y.d 8).toNat = N1 at *
      generalize bitsK y.f (pkF y.d 8).toNat = N2 at *
      generalize pkF y.d 8 = g at *
      clear hck y1 y2 y3 y4 y5 y6
      have HK := hide hlt
      go_wp2_with fail
      generalize hY1 : World.alloc wr _ = Y1
      have zY1 : Y1.heap.size = wr.heap.size + 1 := by rw [← hY1]; simp
      have bY1 : Below wr.heap.size wr Y1 := by rw [← hY1]; exact bal wr _
      have bY : Blk Y1 (wr.heap.size) (sixC y) 72 := by rw [← hY1]; exact Blk.newA wr _ (by first | rfl | simp)
      have Yb := bY1
      have Yz := zY1
      clear hY1 zY1 bY1
      have y3 := bY.cell 3 rfl
      refine (HPG.out _).mono ?_
      rintro e w2 ⟨rfl, hw⟩; obtain rfl := hw.symm
      obtain ⟨Lr, hOR, hLl, hLs⟩ := hown.later Yb
      obtain ⟨va, vc, rfl⟩ := own_form hOR
      have bC1 := hbC.later Yb
      have hln8 : Lr.length ≤ 8 := by rw [hLl]; exact HLN.out
      have HLS := hide hLs
      have HLL := hide hLl
      have hYs := Yb.size
      have HBN := hide (hbN.later Yb)
      have HBR := hide (hbR.later Yb)
      have HBB := hide (below2 hbr Yb)
      clear hLs hLl hbC c0 c1 c2 c3 c4 c5 y3 n0 hbN hbR hown hbr HX H64 bN bR bC Xb
      go_wp2_with fail
      refine wp_region_inv [some 30, some 31, some 32, some 33, some 34, some 35, some 36, some 37, some 38, some 39, some 40, some 41, some 42, some 43, some 44, some 45, some 46, some 47, some 48, some 49, some 50, some 51, some 52, none] (fun L vs W => match vs with | [x0, x1, x2, x3, x4, x5, x6, x7, x8, x9, x10, x11, x12, x13, x14, x15, x16, x17, x18, x19, x20, x21, x22, x23] => (EffY (w.heap.size + 1 + 1 + 1) 38 (w.heap.size + 1 + 1) Y1 W ∧ (L 23 = false → Blk W (w.heap.size + 1 + 1) [.slice va Lr.length vc, .slice none 0 0, .slice none 0 0] 32) ∧ (L 21 = false → OwnR W (w.heap.size + 1 + 1 + 1) 38 6 (.slice va Lr.length vc) Lr)) ∧ (L 0 = true → x0 = .pointer (some ⟨w.heap.size + 1 + 1, 0, none⟩)) ∧ (L 1 = true → x1 = .slice va Lr.length vc) ∧ (L 2 = true → x2 = .pointer (some ⟨wr.heap.size, 0, none⟩)) ∧ (L 3 = true → x3 = .int .i64 y.a) ∧ (L 4 = true → x4 = .int .i64 P0) ∧ (L 5 = true → x5 = .pointer (some ⟨wr.heap.size, 1, none⟩)) ∧ (L 6 = true → x6 = .int .i64 y.b) ∧ (L 7 = true → x7 = .pointer (some ⟨wr.heap.size, 2, none⟩)) ∧ (L 8 = true → x8 = .int .i64 y.c) ∧ (L 9 = true → x9 = .agg #[.int .i64 S0, .int .i64 S1]) ∧ (L 10 = true → x10 = .pointer (some ⟨wr.heap.size, 4, none⟩)) ∧ (L 11 = true → x11 = .int .i64 y.e) ∧ (L 12 = true → x12 = .int .i64 g) ∧ (L 13 = true → ∃ a13 n13, x13 = .slice a13 N1.length n13 ∧ IntsIn (frmY w.heap.size 3 W) x13 N1) ∧ (L 14 = true → x14 = .pointer (some ⟨wr.heap.size, 5, none⟩)) ∧ (L 15 = true → x15 = .int .i64 y.f) ∧ (L 16 = true → x16 = .int .i64 g) ∧ (L 17 = true → ∃ a13 n13, x17 = .slice a13 N2.length n13 ∧ IntsIn (frmY w.heap.size 3 W) x17 N2) ∧ (L 18 = true → x18 = .int .i64 g) ∧ (L 19 = true → (L 13 = true ∧ L 17 = true) ∧ x19 = .agg #[.int .i64 P0, .int .i64 S0, .int .i64 S1, x13, x17, .int .i64 g]) ∧ (L 20 = true → (L 13 = true ∧ L 17 = true) ∧ (L 21 = false → ∃ b0 : Nat, x20 = .slice (some ⟨b0, 0, none⟩) 1 1 ∧ Blk W b0 [.int .i64 P0, .int .i64 S0, .int .i64 S1, x13, x17, .int .i64 g] 38)) ∧ (L 21 = true → (L 13 = true ∧ L 17 = true) ∧ ∃ g1 c1, x21 = .slice (some ⟨g1, 0, none⟩) (Lr.length + 1) c1 ∧ OwnR W (w.heap.size + 1 + 1 + 1) 38 6 x21 (Lr ++ [[.int .i64 P0, .int .i64 S0, .int .i64 S1, x13, x17, .int .i64 g]])) ∧ (L 22 = true → x22 = .pointer (some ⟨w.heap.size + 1 + 1, 0, none⟩)) ∧ (L 23 = true → (L 1 = true ∧ L 21 = true) ∧ ∃ g1 c1, x21 = .slice (some ⟨g1, 0, none⟩) (Lr.length + 1) c1 ∧ Blk W (w.heap.size + 1 + 1) [x21, .slice none 0 0, .slice none 0 0] 32) | _ => False) [_, _, _, _, _, _, _, _, _, _, _, _, _, _, _, _, _, _, _, _, _, _, _, undef] (by kernel_rfl) (by kernel_rfl) rfl (by simp only [puts, Act.put, List.setIfInBounds_toArray, List.set_cons_zero, List.set_cons_succ] <;> rfl) ?_ ?_ ?_
      · exact ⟨⟨EffY.of_below (Below.refl _ _).drew, fun _ => bC1.later (Below.refl _ _).drew, fun _ => hOR.later' (Below.refl _ _).drew⟩, (fun h => by cases h), (fun h => by cases h), (fun h => by cases h), (fun h => by cases h), (fun h => by cases h), (fun h => by cases h), (fun h => by cases h), (fun h => by cases h), (fun h => by cases h), (fun h => by cases h), (fun h => by cases h), (fun h => by cases h), (fun h => by cases h), (fun h => by cases h), (fun h => by cases h), (fun h => by cases h), (fun h => by cases h), (fun h => by cases h), (fun h => by cases h), (fun h => by cases h), (fun h => by cases h), (fun h => by cases h), (fun h => by cases h), (fun h => by cases h)⟩
      · refine ⟨?_, ?_, ?_, ?_, ?_, ?_, ?_, ?_, ?_, ?_, ?_, ?_, ?_, ?_, ?_, ?_, ?_, ?_, ?_, ?_, ?_, ?_, ?_, ?_, trivial⟩
        · intro L vs W hlen hL hD hI K hK
          obtain ⟨x0, x1, x2, x3, x4, x5, x6, x7, x8, x9, x10, x11, x12, x13, x14, x15, x16, x17, x18, x19, x20, x21, x22, x23, rfl⟩ := len24 hlen
          have hG := hI.1
          replace hI := hI.2
          have f0 := hide hI.1
          replace hI := hI.2
          have f1 := hide hI.1
          replace hI := hI.2
          have f2 := hide hI.1
          replace hI := hI.2
          have f3 := hide hI.1
          replace hI := hI.2
          have f4 := hide hI.1
          replace hI := hI.2
          have f5 := hide hI.1
          replace hI := hI.2
          have f6 := hide hI.1
          replace hI := hI.2
          have f7 := hide hI.1
          replace hI := hI.2
          have f8 := hide hI.1
          replace hI := hI.2
          have f9 := hide hI.1
          replace hI := hI.2
          have f10 := hide hI.1
          replace hI := hI.2
          have f11 := hide hI.1
          replace hI := hI.2
          have f12 := hide hI.1
          replace hI := hI.2
          have f13 := hide hI.1
          replace hI := hI.2
          have f14 := hide hI.1
          replace hI := hI.2
          have f15 := hide hI.1
          replace hI := hI.2
          have f16 := hide hI.1
          replace hI := hI.2
          have f17 := hide hI.1
          replace hI := hI.2
          have f18 := hide hI.1
          replace hI := hI.2
          have f19 := hide hI.1
          replace hI := hI.2
          have f20 := hide hI.1
          replace hI := hI.2
          have f21 := hide hI.1
          replace hI := hI.2
          have f22 := hide hI.1
          replace hI := hI.2
          have f23 := hide hI
          clear hI
          have r00 := hG.1.size
          try simp only [puts, Act.put, List.setIfInBounds_toArray, List.set_cons_zero, List.set_cons_succ]
          try go_simp
          exact hK.out _ _ _ (by simp only [puts, Act.put, List.setIfInBounds_toArray, List.set_cons_zero, List.set_cons_succ] <;> rfl) ⟨hG, (fun _ => rfl), (fun h => f1.out h), (fun h => f2.out h), (fun h => f3.out h), (fun h => f4.out h), (fun h => f5.out h), (fun h => f6.out h), (fun h => f7.out h), (fun h => f8.out h), (fun h => f9.out h), (fun h => f10.out h), (fun h => f11.out h), (fun h => f12.out h), (fun h => f13.out h), (fun h => f14.out h), (fun h => f15.out h), (fun h => f16.out h), (fun h => f17.out h), (fun h => f18.out h), (fun h => f19.out h), (fun h => f20.out h), (fun h => f21.out h), (fun h => f22.out h), (fun h => f23.out h)⟩
        · intro L vs W hlen hL hD hI K hK
          obtain ⟨x0, x1, x2, x3, x4, x5, x6, x7, x8, x9, x10, x11, x12, x13, x14, x15, x16, x17, x18, x19, x20, x21, x22, x23, rfl⟩ := len24 hlen
          have hG := hI.1
          replace hI := hI.2
          have f0 := hide hI.1
          replace hI := hI.2
          have f1 := hide hI.1
          replace hI := hI.2
          have f2 := hide hI.1
          replace hI := hI.2
          have f3 := hide hI.1
          replace hI := hI.2
          have f4 := hide hI.1
          replace hI := hI.2
          have f5 := hide hI.1
          replace hI := hI.2
          have f6 := hide hI.1
          replace hI := hI.2
          have f7 := hide hI.1
          replace hI := hI.2
          have f8 := hide hI.1
          replace hI := hI.2
          have f9 := hide hI.1
          replace hI := hI.2
          have f10 := hide hI.1
          replace hI := hI.2
          have f11 := hide hI.1
          replace hI := hI.2
          have f12 := hide hI.1
          replace hI := hI.2
          have f13 := hide hI.1
          replace hI := hI.2
          have f14 := hide hI.1
          replace hI := hI.2
          have f15 := hide hI.1
          replace hI := hI.2
          have f16 := hide hI.1
          replace hI := hI.2
          have f17 := hide hI.1
          replace hI := hI.2
          have f18 := hide hI.1
          replace hI := hI.2
          have f19 := hide hI.1
          replace hI := hI.2
          have f20 := hide hI.1
          replace hI := hI.2
          have f21 := hide hI.1
          replace hI := hI.2
          have f22 := hide hI.1
          replace hI := hI.2
          have f23 := hide hI
          clear hI
          have r00 := hG.1.size
          obtain rfl := f0.out (hD.on 0 (by kernel_rfl))
          try simp only [puts, Act.put, List.setIfInBounds_toArray, List.set_cons_zero, List.set_cons_succ]
          have hst : L 23 = false := Bool.eq_false_iff.2 (fun h => absurd ((f23.out h).1.1.symm.trans hL) (by decide))
          have r0 := (hG.2.1 hst).cell 0 rfl
          go_simp
          exact hK.out _ _ _ (by simp only [puts, Act.put, List.setIfInBounds_toArray, List.set_cons_zero, List.set_cons_succ] <;> rfl) ⟨hG, (fun h => f0.out h), (fun _ => rfl), (fun h => f2.out h), (fun h => f3.out h), (fun h => f4.out h), (fun h => f5.out h), (fun h => f6.out h), (fun h => f7.out h), (fun h => f8.out h), (fun h => f9.out h), (fun h => f10.out h), (fun h => f11.out h), (fun h => f12.out h), (fun h => f13.out h), (fun h => f14.out h), (fun h => f15.out h), (fun h => f16.out h), (fun h => f17.out h), (fun h => f18.out h), (fun h => f19.out h), (fun h => f20.out h), (fun h => f21.out h), (fun h => f22.out h), (fun h => (fun h => ⟨⟨rfl, h.1.2⟩, h.2⟩) (f23.out h))⟩
        · intro L vs W hlen hL hD hI K hK
          obtain ⟨x0, x1, x2, x3, x4, x5, x6, x7, x8, x9, x10, x11, x12, x13, x14, x15, x16, x17, x18, x19, x20, x21, x22, x23, rfl⟩ := len24 hlen
          have hG := hI.1
          replace hI := hI.2
          have f0 := hide hI.1
          replace hI := hI.2
          have f1 := hide hI.1
          replace hI := hI.2
          have f2 := hide hI.1
          replace hI := hI.2
          have f3 := hide hI.1
          replace hI := hI.2
          have f4 := hide hI.1
          replace hI := hI.2
          have f5 := hide hI.1
          replace hI := hI.2
          have f6 := hide hI.1
          replace hI := hI.2
          have f7 := hide hI.1
          replace hI := hI.2
          have f8 := hide hI.1
          replace hI := hI.2
          have f9 := hide hI.1
          replace hI := hI.2
          have f10 := hide hI.1
          replace hI := hI.2
          have f11 := hide hI.1
          replace hI := hI.2
          have f12 := hide hI.1
          replace hI := hI.2
          have f13 := hide hI.1
          replace hI := hI.2
          have f14 := hide hI.1
          replace hI := hI.2
          have f15 := hide hI.1
          replace hI := hI.2
          have f16 := hide hI.1
          replace hI := hI.2
          have f17 := hide hI.1
          replace hI := hI.2
          have f18 := hide hI.1
          replace hI := hI.2
          have f19 := hide hI.1
          replace hI := hI.2
          have f20 := hide hI.1
          replace hI := hI.2
          have f21 := hide hI.1
          replace hI := hI.2
          have f22 := hide hI.1
          replace hI := hI.2
          have f23 := hide hI
          clear hI
          have r00 := hG.1.size
          try simp only [puts, Act.put, List.setIfInBounds_toArray, List.set_cons_zero, List.set_cons_succ]
          try go_simp
          exact hK.out _ _ _ (by simp only [puts, Act.put, List.setIfInBounds_toArray, List.set_cons_zero, List.set_cons_succ] <;> rfl) ⟨hG, (fun h => f0.out h), (fun h => f1.out h), (fun _ => rfl), (fun h => f3.out h), (fun h => f4.out h), (fun h => f5.out h), (fun h => f6.out h), (fun h => f7.out h), (fun h => f8.out h), (fun h => f9.out h), (fun h => f10.out h), (fun h => f11.out h), (fun h => f12.out h), (fun h => f13.out h), (fun h => f14.out h), (fun h => f15.out h), (fun h => f16.out h), (fun h => f17.out h), (fun h => f18.out h), (fun h => f19.out h), (fun h => f20.out h), (fun h => f21.out h), (fun h => f22.out h), (fun h => f23.out h)⟩
        · intro L vs W hlen hL hD hI K hK
          obtain ⟨x0, x1, x2, x3, x4, x5, x6, x7, x8, x9, x10, x11, x12, x13, x14, x15, x16, x17, x18, x19, x20, x21, x22, x23, rfl⟩ := len24 hlen
          have hG := hI.1
          replace hI := hI.2
          have f0 := hide hI.1
          replace hI := hI.2
          have f1 := hide hI.1
          replace hI := hI.2
          have f2 := hide hI.1
          replace hI := hI.2
          have f3 := hide hI.1
          replace hI := hI.2
          have f4 := hide hI.1
          replace hI := hI.2
          have f5 := hide hI.1
          replace hI := hI.2
          have f6 := hide hI.1
          replace hI := hI.2
          have f7 := hide hI.1
          replace hI := hI.2
          have f8 := hide hI.1
          replace hI := hI.2
          have f9 := hide hI.1
          replace hI := hI.2
          have f10 := hide hI.1
          replace hI := hI.2
          have f11 := hide hI.1
          replace hI := hI.2
          have f12 := hide hI.1
          replace hI := hI.2
          have f13 := hide hI.1
          replace hI := hI.2
          have f14 := hide hI.1
          replace hI := hI.2
          have f15 := hide hI.1
          replace hI := hI.2
          have f16 := hide hI.1
          replace hI := hI.2
          have f17 := hide hI.1
          replace hI := hI.2
          have f18 := hide hI.1
          replace hI := hI.2
          have f19 := hide hI.1
          replace hI := hI.2
          have f20 := hide hI.1
          replace hI := hI.2
          have f21 := hide hI.1
          replace hI := hI.2
          have f22 := hide hI.1
          replace hI := hI.2
          have f23 := hide hI
          clear hI
          have r00 := hG.1.size
          obtain rfl := f2.out (hD.on 2 (by kernel_rfl))
          try simp only [puts, Act.put, List.setIfInBounds_toArray, List.set_cons_zero, List.set_cons_succ]
          have r0 := hG.1.cell bY (show wr.heap.size ≠ w.heap.size + 1 + 1 by omega) (by decide) 0 rfl
          go_simp
          exact hK.out _ _ _ (by simp only [puts, Act.put, List.setIfInBounds_toArray, List.set_cons_zero, List.set_cons_succ] <;> rfl) ⟨hG, (fun h => f0.out h), (fun h => f1.out h), (fun h => f2.out h), (fun _ => rfl), (fun h => f4.out h), (fun h => f5.out h), (fun h => f6.out h), (fun h => f7.out h), (fun h => f8.out h), (fun h => f9.out h), (fun h => f10.out h), (fun h => f11.out h), (fun h => f12.out h), (fun h => f13.out h), (fun h => f14.out h), (fun h => f15.out h), (fun h => f16.out h), (fun h => f17.out h), (fun h => f18.out h), (fun h => f19.out h), (fun h => f20.out h), (fun h => f21.out h), (fun h => f22.out h), (fun h => f23.out h)⟩
        · intro L vs W hlen hL hD hI K hK
          obtain ⟨x0, x1, x2, x3, x4, x5, x6, x7, x8, x9, x10, x11, x12, x13, x14, x15, x16, x17, x18, x19, x20, x21, x22, x23, rfl⟩ := len24 hlen
          have hG := hI.1
          replace hI := hI.2
          have f0 := hide hI.1
          replace hI := hI.2
          have f1 := hide hI.1
          replace hI := hI.2
          have f2 := hide hI.1
          replace hI := hI.2
          have f3 := hide hI.1
          replace hI := hI.2
          have f4 := hide hI.1
          replace hI := hI.2
          have f5 := hide hI.1
          replace hI := hI.2
          have f6 := hide hI.1
          replace hI := hI.2
          have f7 := hide hI.1
          replace hI := hI.2
          have f8 := hide hI.1
          replace hI := hI.2
          have f9 := hide hI.1
          replace hI := hI.2
          have f10 := hide hI.1
          replace hI := hI.2
          have f11 := hide hI.1
          replace hI := hI.2
          have f12 := hide hI.1
          replace hI := hI.2
          have f13 := hide hI.1
          replace hI := hI.2
          have f14 := hide hI.1
          replace hI := hI.2
          have f15 := hide hI.1
          replace hI := hI.2
          have f16 := hide hI.1
          replace hI := hI.2
          have f17 := hide hI.1
          replace hI := hI.2
          have f18 := hide hI.1
          replace hI := hI.2
          have f19 := hide hI.1
          replace hI := hI.2
          have f20 := hide hI.1
          replace hI := hI.2
          have f21 := hide hI.1
          replace hI := hI.2
          have f22 := hide hI.1
          replace hI := hI.2
          have f23 := hide hI
          clear hI
          have r00 := hG.1.size
          obtain rfl := f3.out (hD.on 3 (by kernel_rfl))
          try simp only [puts, Act.put, List.setIfInBounds_toArray, List.set_cons_zero, List.set_cons_succ]
          try go_simp
          refine (HP0.out _).mono ?_
          rintro e W' ⟨rfl, rfl⟩
          try go_simp
          exact hK.out _ _ _ (by simp only [puts, Act.put, List.setIfInBounds_toArray, List.set_cons_zero, List.set_cons_succ] <;> rfl) ⟨hG, (fun h => f0.out h), (fun h => f1.out h), (fun h => f2.out h), (fun h => f3.out h), (fun _ => rfl), (fun h => f5.out h), (fun h => f6.out h), (fun h => f7.out h), (fun h => f8.out h), (fun h => f9.out h), (fun h => f10.out h), (fun h => f11.out h), (fun h => f12.out h), (fun h => f13.out h), (fun h => f14.out h), (fun h => f15.out h), (fun h => f16.out h), (fun h => f17.out h), (fun h => f18.out h), (fun h => f19.out h), (fun h => f20.out h), (fun h => f21.out h), (fun h => f22.out h), (fun h => f23.out h)⟩
        · intro L vs W hlen hL hD hI K hK
          obtain ⟨x0, x1, x2, x3, x4, x5, x6, x7, x8, x9, x10, x11, x12, x13, x14, x15, x16, x17, x18, x19, x20, x21, x22, x23, rfl⟩ := len24 hlen
          have hG := hI.1
          replace hI := hI.2
          have f0 := hide hI.1
          replace hI := hI.2
          have f1 := hide hI.1
          replace hI := hI.2
          have f2 := hide hI.1
          replace hI := hI.2
          have f3 := hide hI.1
          replace hI := hI.2
          have f4 := hide hI.1
          replace hI := hI.2
          have f5 := hide hI.1
          replace hI := hI.2
          have f6 := hide hI.1
          replace hI := hI.2
          have f7 := hide hI.1
          replace hI := hI.2
          have f8 := hide hI.1
          replace hI := hI.2
          have f9 := hide hI.1
          replace hI := hI.2
          have f10 := hide hI.1
          replace hI := hI.2
          have f11 := hide hI.1
          replace hI := hI.2
          have f12 := hide hI.1
          replace hI := hI.2
          have f13 := hide hI.1
          replace hI := hI.2
          have f14 := hide hI.1
          replace hI := hI.2
          have f15 := hide hI.1
          replace hI := hI.2
          have f16 := hide hI.1
          replace hI := hI.2
          have f17 := hide hI.1
          replace hI := hI.2
          have f18 := hide hI.1
          replace hI := hI.2
          have f19 := hide hI.1
          replace hI := hI.2
          have f20 := hide hI.1
          replace hI := hI.2
          have f21 := hide hI.1
          replace hI := hI.2
          have f22 := hide hI.1
          replace hI := hI.2
          have f23 := hide hI
          clear hI
          have r00 := hG.1.size
          try simp only [puts, Act.put, List.setIfInBounds_toArray, List.set_cons_zero, List.set_cons_succ]
          try go_simp
          exact hK.out _ _ _ (by simp only [puts, Act.put, List.setIfInBounds_toArray, List.set_cons_zero, List.set_cons_succ] <;> rfl) ⟨hG, (fun h => f0.out h), (fun h => f1.out h), (fun h => f2.out h), (fun h => f3.out h), (fun h => f4.out h), (fun _ => rfl), (fun h => f6.out h), (fun h => f7.out h), (fun h => f8.out h), (fun h => f9.out h), (fun h => f10.out h), (fun h => f11.out h), (fun h => f12.out h), (fun h => f13.out h), (fun h => f14.out h), (fun h => f15.out h), (fun h => f16.out h), (fun h => f17.out h), (fun h => f18.out h), (fun h => f19.out h), (fun h => f20.out h), (fun h => f21.out h), (fun h => f22.out h), (fun h => f23.out h)⟩
        · intro L vs W hlen hL hD hI K hK
          obtain ⟨x0, x1, x2, x3, x4, x5, x6, x7, x8, x9, x10, x11, x12, x13, x14, x15, x16, x17, x18, x19, x20, x21, x22, x23, rfl⟩ := len24 hlen
          have hG := hI.1
          replace hI := hI.2
          have f0 := hide hI.1
          replace hI := hI.2
          have f1 := hide hI.1
          replace hI := hI.2
          have f2 := hide hI.1
          replace hI := hI.2
          have f3 := hide hI.1
          replace hI := hI.2
          have f4 := hide hI.1
          replace hI := hI.2
          have f5 := hide hI.1
          replace hI := hI.2
          have f6 := hide hI.1
          replace hI := hI.2
          have f7 := hide hI.1
          replace hI := hI.2
          have f8 := hide hI.1
          replace hI := hI.2
          have f9 := hide hI.1
          replace hI := hI.2
          have f10 := hide hI.1
          replace hI := hI.2
          have f11 := hide hI.1
          replace hI := hI.2
          have f12 := hide hI.1
          replace hI := hI.2
          have f13 := hide hI.1
          replace hI := hI.2
          have f14 := hide hI.1
          replace hI := hI.2
          have f15 := hide hI.1
          replace hI := hI.2
          have f16 := hide hI.1
          replace hI := hI.2
          have f17 := hide hI.1
          replace hI := hI.2
          have f18 := hide hI.1
          replace hI := hI.2
          have f19 := hide hI.1
          replace hI := hI.2
          have f20 := hide hI.1
          replace hI := hI.2
          have f21 := hide hI.1
          replace hI := hI.2
          have f22 := hide hI.1
          replace hI := hI.2
          have f23 := hide hI
          clear hI
          have r00 := hG.1.size
          obtain rfl := f5.out (hD.on 5 (by kernel_rfl))
          try simp only [puts, Act.put, List.setIfInBounds_toArray, List.set_cons_zero, List.set_cons_succ]
          have r0 := hG.1.cell bY (show wr.heap.size ≠ w.heap.size + 1 + 1 by omega) (by decide) 1 rfl
          go_simp
          exact hK.out _ _ _ (by simp only [puts, Act.put, List.setIfInBounds_toArray, List.set_cons_zero, List.set_cons_succ] <;> rfl) ⟨hG, (fun h => f0.out h), (fun h => f1.out h), (fun h => f2.out h), (fun h => f3.out h), (fun h => f4.out h), (fun h => f5.out h), (fun _ => rfl), (fun h => f7.out h), (fun h => f8.out h), (fun h => f9.out h), (fun h => f10.out h), (fun h => f11.out h), (fun h => f12.out h), (fun h => f13.out h), (fun h => f14.out h), (fun h => f15.out h), (fun h => f16.out h), (fun h => f17.out h), (fun h => f18.out h), (fun h => f19.out h), (fun h => f20.out h), (fun h => f21.out h), (fun h => f22.out h), (fun h => f23.out h)⟩
        · intro L vs W hlen hL hD hI K hK
          obtain ⟨x0, x1, x2, x3, x4, x5, x6, x7, x8, x9, x10, x11, x12, x13, x14, x15, x16, x17, x18, x19, x20, x21, x22, x23, rfl⟩ := len24 hlen
          have hG := hI.1
          replace hI := hI.2
          have f0 := hide hI.1
          replace hI := hI.2
          have f1 := hide hI.1
          replace hI := hI.2
          have f2 := hide hI.1
          replace hI := hI.2
          have f3 := hide hI.1
          replace hI := hI.2
          have f4 := hide hI.1
          replace hI := hI.2
          have f5 := hide hI.1
          replace hI := hI.2
          have f6 := hide hI.1
          replace hI := hI.2
          have f7 := hide hI.1
          replace hI := hI.2
          have f8 := hide hI.1
          replace hI := hI.2
          have f9 := hide hI.1
          replace hI := hI.2
          have f10 := hide hI.1
          replace hI := hI.2
          have f11 := hide hI.1
          replace hI := hI.2
          have f12 := hide hI.1
          replace hI := hI.2
          have f13 := hide hI.1
          replace hI := hI.2
          have f14 := hide hI.1
          replace hI := hI.2
          have f15 := hide hI.1
          replace hI := hI.2
          have f16 := hide hI.1
          replace hI := hI.2
          have f17 := hide hI.1
          replace hI := hI.2
          have f18 := hide hI.1
          replace hI := hI.2
          have f19 := hide hI.1
          replace hI := hI.2
          have f20 := hide hI.1
          replace hI := hI.2
          have f21 := hide hI.1
          replace hI := hI.2
          have f22 := hide hI.1
          replace hI := hI.2
          have f23 := hide hI
          clear hI
          have r00 := hG.1.size
          try simp only [puts, Act.put, List.setIfInBounds_toArray, List.set_cons_zero, List.set_cons_succ]
          try go_simp
          exact hK.out _ _ _ (by simp only [puts, Act.put, List.setIfInBounds_toArray, List.set_cons_zero, List.set_cons_succ] <;> rfl) ⟨hG, (fun h => f0.out h), (fun h => f1.out h), (fun h => f2.out h), (fun h => f3.out h), (fun h => f4.out h), (fun h => f5.out h), (fun h => f6.out h), (fun _ => rfl), (fun h => f8.out h), (fun h => f9.out h), (fun h => f10.out h), (fun h => f11.out h), (fun h => f12.out h), (fun h => f13.out h), (fun h => f14.out h), (fun h => f15.out h), (fun h => f16.out h), (fun h => f17.out h), (fun h => f18.out h), (fun h => f19.out h), (fun h => f20.out h), (fun h => f21.out h), (fun h => f22.out h), (fun h => f23.out h)⟩
        · intro L vs W hlen hL hD hI K hK
          obtain ⟨x0, x1, x2, x3, x4, x5, x6, x7, x8, x9, x10, x11, x12, x13, x14, x15, x16, x17, x18, x19, x20, x21, x22, x23, rfl⟩ := len24 hlen
          have hG := hI.1
          replace hI := hI.2
          have f0 := hide hI.1
          replace hI := hI.2
          have f1 := hide hI.1
          replace hI := hI.2
          have f2 := hide hI.1
          replace hI := hI.2
          have f3 := hide hI.1
          replace hI := hI.2
          have f4 := hide hI.1
          replace hI := hI.2
          have f5 := hide hI.1
          replace hI := hI.2
          have f6 := hide hI.1
          replace hI := hI.2
          have f7 := hide hI.1
          replace hI := hI.2
          have f8 := hide hI.1
          replace hI := hI.2
          have f9 := hide hI.1
          replace hI := hI.2
          have f10 := hide hI.1
          replace hI := hI.2
          have f11 := hide hI.1
          replace hI := hI.2
          have f12 := hide hI.1
          replace hI := hI.2
          have f13 := hide hI.1
          replace hI := hI.2
          have f14 := hide hI.1
          replace hI := hI.2
          have f15 := hide hI.1
          replace hI := hI.2
          have f16 := hide hI.1
          replace hI := hI.2
          have f17 := hide hI.1
          replace hI := hI.2
          have f18 := hide hI.1
          replace hI := hI.2
          have f19 := hide hI.1
          replace hI := hI.2
          have f20 := hide hI.1
          replace hI := hI.2
          have f21 := hide hI.1
          replace hI := hI.2
          have f22 := hide hI.1
          replace hI := hI.2
          have f23 := hide hI
          clear hI
          have r00 := hG.1.size
          obtain rfl := f7.out (hD.on 7 (by kernel_rfl))
          try simp only [puts, Act.put, List.setIfInBounds_toArray, List.set_cons_zero, List.set_cons_succ]
          have r0 := hG.1.cell bY (show wr.heap.size ≠ w.heap.size + 1 + 1 by omega) (by decide) 2 rfl
          go_simp
          exact hK.out _ _ _ (by simp only [puts, Act.put, List.setIfInBounds_toArray, List.set_cons_zero, List.set_cons_succ] <;> rfl) ⟨hG, (fun h => f0.out h), (fun h => f1.out h), (fun h => f2.out h), (fun h => f3.out h), (fun h => f4.out h), (fun h => f5.out h), (fun h => f6.out h), (fun h => f7.out h), (fun _ => rfl), (fun h => f9.out h), (fun h => f10.out h), (fun h => f11.out h), (fun h => f12.out h), (fun h => f13.out h), (fun h => f14.out h), (fun h => f15.out h), (fun h => f16.out h), (fun h => f17.out h), (fun h => f18.out h), (fun h => f19.out h), (fun h => f20.out h), (fun h => f21.out h), (fun h => f22.out h), (fun h => f23.out h)⟩
        · intro L vs W hlen hL hD hI K hK
          obtain ⟨x0, x1, x2, x3, x4, x5, x6, x7, x8, x9, x10, x11, x12, x13, x14, x15, x16, x17, x18, x19, x20, x21, x22, x23, rfl⟩ := len24 hlen
          have hG := hI.1
          replace hI := hI.2
          have f0 := hide hI.1
          replace hI := hI.2
          have f1 := hide hI.1
          replace hI := hI.2
          have f2 := hide hI.1
          replace hI := hI.2
          have f3 := hide hI.1
          replace hI := hI.2
          have f4 := hide hI.1
          replace hI := hI.2
          have f5 := hide hI.1
          replace hI := hI.2
          have f6 := hide hI.1
          replace hI := hI.2
          have f7 := hide hI.1
          replace hI := hI.2
          have f8 := hide hI.1
          replace hI := hI.2
          have f9 := hide hI.1
          replace hI := hI.2
          have f10 := hide hI.1
          replace hI := hI.2
          have f11 := hide hI.1
          replace hI := hI.2
          have f12 := hide hI.1
          replace hI := hI.2
          have f13 := hide hI.1
          replace hI := hI.2
          have f14 := hide hI.1
          replace hI := hI.2
          have f15 := hide hI.1
          replace hI := hI.2
          have f16 := hide hI.1
          replace hI := hI.2
          have f17 := hide hI.1
          replace hI := hI.2
          have f18 := hide hI.1
          replace hI := hI.2
          have f19 := hide hI.1
          replace hI := hI.2
          have f20 := hide hI.1
          replace hI := hI.2
          have f21 := hide hI.1
          replace hI := hI.2
          have f22 := hide hI.1
          replace hI := hI.2
          have f23 := hide hI
          clear hI
          have r00 := hG.1.size
          obtain rfl := f6.out (hD.on 6 (by kernel_rfl))
          obtain rfl := f8.out (hD.on 8 (by kernel_rfl))
          try simp only [puts, Act.put, List.setIfInBounds_toArray, List.set_cons_zero, List.set_cons_succ]
          try go_simp
          refine (HPA.out _).mono ?_
          rintro e W' ⟨rfl, hb⟩
          try go_simp
          exact hK.out _ _ _ (by simp only [puts, Act.put, List.setIfInBounds_toArray, List.set_cons_zero, List.set_cons_succ] <;> rfl) ⟨⟨hG.1.then hb, fun h => (hG.2.1 h).later hb, fun h => (hG.2.2 h).later' hb⟩, (fun h => f0.out h), (fun h => f1.out h), (fun h => f2.out h), (fun h => f3.out h), (fun h => f4.out h), (fun h => f5.out h), (fun h => f6.out h), (fun h => f7.out h), (fun h => f8.out h), (fun _ => rfl), (fun h => f10.out h), (fun h => f11.out h), (fun h => f12.out h), (fun h => (fun h => let ⟨a, m, e, hi⟩ := h; ⟨a, m, e, hi.keeps (keeps_frmY_below hb)⟩) (f13.out h)), (fun h => f14.out h), (fun h => f15.out h), (fun h => f16.out h), (fun h => (fun h => let ⟨a, m, e, hi⟩ := h; ⟨a, m, e, hi.keeps (keeps_frmY_below hb)⟩) (f17.out h)), (fun h => f18.out h), (fun h => f19.out h), (fun h => (fun h => ⟨h.1, fun h8 => let ⟨b0, a1, a2⟩ := h.2 h8; ⟨b0, a1, a2.later hb⟩⟩) (f20.out h)), (fun h => (fun h => ⟨h.1, let ⟨g1, c1, e, ho⟩ := h.2; ⟨g1, c1, e, ho.later' hb⟩⟩) (f21.out h)), (fun h => f22.out h), (fun h => (fun h => ⟨h.1, let ⟨g1, c1, e, hk⟩ := h.2; ⟨g1, c1, e, hk.later hb⟩⟩) (f23.out h))⟩
        · intro L vs W hlen hL hD hI K hK
          obtain ⟨x0, x1, x2, x3, x4, x5, x6, x7, x8, x9, x10, x11, x12, x13, x14, x15, x16, x17, x18, x19, x20, x21, x22, x23, rfl⟩ := len24 hlen
          have hG := hI.1
          replace hI := hI.2
          have f0 := hide hI.1
          replace hI := hI.2
          have f1 := hide hI.1
          replace hI := hI.2
          have f2 := hide hI.1
          replace hI := hI.2
          have f3 := hide hI.1
          replace hI := hI.2
          have f4 := hide hI.1
          replace hI := hI.2
          have f5 := hide hI.1
          replace hI := hI.2
          have f6 := hide hI.1
          replace hI := hI.2
          have f7 := hide hI.1
          replace hI := hI.2
          have f8 := hide hI.1
          replace hI := hI.2
          have f9 := hide hI.1
          replace hI := hI.2
          have f10 := hide hI.1
          replace hI := hI.2
          have f11 := hide hI.1
          replace hI := hI.2
          have f12 := hide hI.1
          replace hI := hI.2
          have f13 := hide hI.1
          replace hI := hI.2
          have f14 := hide hI.1
          replace hI := hI.2
          have f15 := hide hI.1
          replace hI := hI.2
          have f16 := hide hI.1
          replace hI := hI.2
          have f17 := hide hI.1
          replace hI := hI.2
          have f18 := hide hI.1
          replace hI := hI.2
          have f19 := hide hI.1
          replace hI := hI.2
          have f20 := hide hI.1
          replace hI := hI.2
          have f21 := hide hI.1
          replace hI := hI.2
          have f22 := hide hI.1
          replace hI := hI.2
          have f23 := hide hI
          clear hI
          have r00 := hG.1.size
          try simp only [puts, Act.put, List.setIfInBounds_toArray, List.set_cons_zero, List.set_cons_succ]
          try go_simp
          exact hK.out _ _ _ (by simp only [puts, Act.put, List.setIfInBounds_toArray, List.set_cons_zero, List.set_cons_succ] <;> rfl) ⟨hG, (fun h => f0.out h), (fun h => f1.out h), (fun h => f2.out h), (fun h => f3.out h), (fun h => f4.out h), (fun h => f5.out h), (fun h => f6.out h), (fun h => f7.out h), (fun h => f8.out h), (fun h => f9.out h), (fun _ => rfl), (fun h => f11.out h), (fun h => f12.out h), (fun h => f13.out h), (fun h => f14.out h), (fun h => f15.out h), (fun h => f16.out h), (fun h => f17.out h), (fun h => f18.out h), (fun h => f19.out h), (fun h => f20.out h), (fun h => f21.out h), (fun h => f22.out h), (fun h => f23.out h)⟩
        · intro L vs W hlen hL hD hI K hK
          obtain ⟨x0, x1, x2, x3, x4, x5, x6, x7, x8, x9, x10, x11, x12, x13, x14, x15, x16, x17, x18, x19, x20, x21, x22, x23, rfl⟩ := len24 hlen
          have hG := hI.1
          replace hI := hI.2
          have f0 := hide hI.1
          replace hI := hI.2
          have f1 := hide hI.1
          replace hI := hI.2
          have f2 := hide hI.1
          replace hI := hI.2
          have f3 := hide hI.1
          replace hI := hI.2
          have f4 := hide hI.1
          replace hI := hI.2
          have f5 := hide hI.1
          replace hI := hI.2
          have f6 := hide hI.1
          replace hI := hI.2
          have f7 := hide hI.1
          replace hI := hI.2
          have f8 := hide hI.1
          replace hI := hI.2
          have f9 := hide hI.1
          replace hI := hI.2
          have f10 := hide hI.1
          replace hI := hI.2
          have f11 := hide hI.1
          replace hI := hI.2
          have f12 := hide hI.1
          replace hI := hI.2
          have f13 := hide hI.1
          replace hI := hI.2
          have f14 := hide hI.1
          replace hI := hI.2
          have f15 := hide hI.1
          replace hI := hI.2
          have f16 := hide hI.1
          replace hI := hI.2
          have f17 := hide hI.1
          replace hI := hI.2
          have f18 := hide hI.1
          replace hI := hI.2
          have f19 := hide hI.1
          replace hI := hI.2
          have f20 := hide hI.1
          replace hI := hI.2
          have f21 := hide hI.1
          replace hI := hI.2
          have f22 := hide hI.1
          replace hI := hI.2
          have f23 := hide hI
          clear hI
          have r00 := hG.1.size
          obtain rfl := f10.out (hD.on 10 (by kernel_rfl))
          try simp only [puts, Act.put, List.setIfInBounds_toArray, List.set_cons_zero, List.set_cons_succ]
          have r0 := hG.1.cell bY (show wr.heap.size ≠ w.heap.size + 1 + 1 by omega) (by decide) 4 rfl
          go_simp
          exact hK.out _ _ _ (by simp only [puts, Act.put, List.setIfInBounds_toArray, List.set_cons_zero, List.set_cons_succ] <;> rfl) ⟨hG, (fun h => f0.out h), (fun h => f1.out h), (fun h => f2.out h), (fun h => f3.out h), (fun h => f4.out h), (fun h => f5.out h), (fun h => f6.out h), (fun h => f7.out h), (fun h => f8.out h), (fun h => f9.out h), (fun h => f10.out h), (fun _ => rfl), (fun h => f12.out h), (fun h => f13.out h), (fun h => f14.out h), (fun h => f15.out h), (fun h => f16.out h), (fun h => f17.out h), (fun h => f18.out h), (fun h => f19.out h), (fun h => f20.out h), (fun h => f21.out h), (fun h => f22.out h), (fun h => f23.out h)⟩
        · intro L vs W hlen hL hD hI K hK
          obtain ⟨x0, x1, x2, x3, x4, x5, x6, x7, x8, x9, x10, x11, x12, x13, x14, x15, x16, x17, x18, x19, x20, x21, x22, x23, rfl⟩ := len24 hlen
          have hG := hI.1
          replace hI := hI.2
          have f0 := hide hI.1
          replace hI := hI.2
          have f1 := hide hI.1
          replace hI := hI.2
          have f2 := hide hI.1
          replace hI := hI.2
          have f3 := hide hI.1
          replace hI := hI.2
          have f4 := hide hI.1
          replace hI := hI.2
          have f5 := hide hI.1
          replace hI := hI.2
          have f6 := hide hI.1
          replace hI := hI.2
          have f7 := hide hI.1
          replace hI := hI.2
          have f8 := hide hI.1
          replace hI := hI.2
          have f9 := hide hI.1
          replace hI := hI.2
          have f10 := hide hI.1
          replace hI := hI.2
          have f11 := hide hI.1
          replace hI := hI.2
          have f12 := hide hI.1
          replace hI := hI.2
          have f13 := hide hI.1
          replace hI := hI.2
          have f14 := hide hI.1
          replace hI := hI.2
          have f15 := hide hI.1
          replace hI := hI.2
          have f16 := hide hI.1
          replace hI := hI.2
          have f17 := hide hI.1
          replace hI := hI.2
          have f18 := hide hI.1
          replace hI := hI.2
          have f19 := hide hI.1
          replace hI := hI.2
          have f20 := hide hI.1
          replace hI := hI.2
          have f21 := hide hI.1
          replace hI := hI.2
          have f22 := hide hI.1
          replace hI := hI.2
          have f23 := hide hI
          clear hI
          have r00 := hG.1.size
          try simp only [puts, Act.put, List.setIfInBounds_toArray, List.set_cons_zero, List.set_cons_succ]
          try go_simp
          exact hK.out _ _ _ (by simp only [puts, Act.put, List.setIfInBounds_toArray, List.set_cons_zero, List.set_cons_succ] <;> rfl) ⟨hG, (fun h => f0.out h), (fun h => f1.out h), (fun h => f2.out h), (fun h => f3.out h), (fun h => f4.out h), (fun h => f5.out h), (fun h => f6.out h), (fun h => f7.out h), (fun h => f8.out h), (fun h => f9.out h), (fun h => f10.out h), (fun h => f11.out h), (fun _ => rfl), (fun h => f13.out h), (fun h => f14.out h), (fun h => f15.out h), (fun h => f16.out h), (fun h => f17.out h), (fun h => f18.out h), (fun h => f19.out h), (fun h => f20.out h), (fun h => f21.out h), (fun h => f22.out h), (fun h => f23.out h)⟩
        · intro L vs W hlen hL hD hI K hK
          obtain ⟨x0, x1, x2, x3, x4, x5, x6, x7, x8, x9, x10, x11, x12, x13, x14, x15, x16, x17, x18, x19, x20, x21, x22, x23, rfl⟩ := len24 hlen
          have hG := hI.1
          replace hI := hI.2
          have f0 := hide hI.1
          replace hI := hI.2
          have f1 := hide hI.1
          replace hI := hI.2
          have f2 := hide hI.1
          replace hI := hI.2
          have f3 := hide hI.1
          replace hI := hI.2
          have f4 := hide hI.1
          replace hI := hI.2
          have f5 := hide hI.1
          replace hI := hI.2
          have f6 := hide hI.1
          replace hI := hI.2
          have f7 := hide hI.1
          replace hI := hI.2
          have f8 := hide hI.1
          replace hI := hI.2
          have f9 := hide hI.1
          replace hI := hI.2
          have f10 := hide hI.1
          replace hI := hI.2
          have f11 := hide hI.1
          replace hI := hI.2
          have f12 := hide hI.1
          replace hI := hI.2
          have f13 := hide hI.1
          replace hI := hI.2
          have f14 := hide hI.1
          replace hI := hI.2
          have f15 := hide hI.1
          replace hI := hI.2
          have f16 := hide hI.1
          replace hI := hI.2
          have f17 := hide hI.1
          replace hI := hI.2
          have f18 := hide hI.1
          replace hI := hI.2
          have f19 := hide hI.1
          replace hI := hI.2
          have f20 := hide hI.1
          replace hI := hI.2
          have f21 := hide hI.1
          replace hI := hI.2
          have f22 := hide hI.1
          replace hI := hI.2
          have f23 := hide hI
          clear hI
          have r00 := hG.1.size
          obtain rfl := f11.out (hD.on 11 (by kernel_rfl))
          obtain rfl := f12.out (hD.on 12 (by kernel_rfl))
          try simp only [puts, Act.put, List.setIfInBounds_toArray, List.set_cons_zero, List.set_cons_succ]
          try go_simp
          refine (HB1.out _).mono ?_
          rintro e W' ⟨v13, rfl, hi13, hb⟩
          try go_simp
          exact hK.out _ _ _ (by simp only [puts, Act.put, List.setIfInBounds_toArray, List.set_cons_zero, List.set_cons_succ] <;> rfl) ⟨⟨hG.1.then hb, fun h => (hG.2.1 h).later hb, fun h => (hG.2.2 h).later' hb⟩, (fun h => f0.out h), (fun h => f1.out h), (fun h => f2.out h), (fun h => f3.out h), (fun h => f4.out h), (fun h => f5.out h), (fun h => f6.out h), (fun h => f7.out h), (fun h => f8.out h), (fun h => f9.out h), (fun h => f10.out h), (fun h => f11.out h), (fun h => f12.out h), (fun _ => let ⟨a, m, e, _⟩ := hi13; ⟨a, m, e, hi13.keeps (keeps_frmY_le _ _ (by omega))⟩), (fun h => f14.out h), (fun h => f15.out h), (fun h => f16.out h), (fun h => (fun h => let ⟨a, m, e, hi⟩ := h; ⟨a, m, e, hi.keeps (keeps_frmY_below hb)⟩) (f17.out h)), (fun h => f18.out h), (fun h => (fun h => absurd (h.1.1.symm.trans hL) (by decide)) (f19.out h)), (fun h => (fun h => absurd (h.1.1.symm.trans hL) (by decide)) (f20.out h)), (fun h => (fun h => absurd (h.1.1.symm.trans hL) (by decide)) (f21.out h)), (fun h => f22.out h), (fun h => (fun h => ⟨h.1, let ⟨g1, c1, e, hk⟩ := h.2; ⟨g1, c1, e, hk.later hb⟩⟩) (f23.out h))⟩
        · intro L vs W hlen hL hD hI K hK
          obtain ⟨x0, x1, x2, x3, x4, x5, x6, x7, x8, x9, x10, x11, x12, x13, x14, x15, x16, x17, x18, x19, x20, x21, x22, x23, rfl⟩ := len24 hlen
          have hG := hI.1
          replace hI := hI.2
          have f0 := hide hI.1
          replace hI := hI.2
          have f1 := hide hI.1
          replace hI := hI.2
          have f2 := hide hI.1
          replace hI := hI.2
          have f3 := hide hI.1
          replace hI := hI.2
          have f4 := hide hI.1
          replace hI := hI.2
          have f5 := hide hI.1
          replace hI := hI.2
          have f6 := hide hI.1
          replace hI := hI.2
          have f7 := hide hI.1
          replace hI := hI.2
          have f8 := hide hI.1
          replace hI := hI.2
          have f9 := hide hI.1
          replace hI := hI.2
          have f10 := hide hI.1
          replace hI := hI.2
          have f11 := hide hI.1
          replace hI := hI.2
          have f12 := hide hI.1
          replace hI := hI.2
          have f13 := hide hI.1
          replace hI := hI.2
          have f14 := hide hI.1
          replace hI := hI.2
          have f15 := hide hI.1
          replace hI := hI.2
          have f16 := hide hI.1
          replace hI := hI.2
          have f17 := hide hI.1
          replace hI := hI.2
          have f18 := hide hI.1
          replace hI := hI.2
          have f19 := hide hI.1
          replace hI := hI.2
          have f20 := hide hI.1
          replace hI := hI.2
          have f21 := hide hI.1
          replace hI := hI.2
          have f22 := hide hI.1
          replace hI := hI.2
          have f23 := hide hI
          clear hI
          have r00 := hG.1.size
          try simp only [puts, Act.put, List.setIfInBounds_toArray, List.set_cons_zero, List.set_cons_succ]
          try go_simp
          exact hK.out _ _ _ (by simp only [puts, Act.put, List.setIfInBounds_toArray, List.set_cons_zero, List.set_cons_succ] <;> rfl) ⟨hG, (fun h => f0.out h), (fun h => f1.out h), (fun h => f2.out h), (fun h => f3.out h), (fun h => f4.out h), (fun h => f5.out h), (fun h => f6.out h), (fun h => f7.out h), (fun h => f8.out h), (fun h => f9.out h), (fun h => f10.out h), (fun h => f11.out h), (fun h => f12.out h), (fun h => f13.out h), (fun _ => rfl), (fun h => f15.out h), (fun h => f16.out h), (fun h => f17.out h), (fun h => f18.out h), (fun h => f19.out h), (fun h => f20.out h), (fun h => f21.out h), (fun h => f22.out h), (fun h => f23.out h)⟩
        · intro L vs W hlen hL hD hI K hK
          obtain ⟨x0, x1, x2, x3, x4, x5, x6, x7, x8, x9, x10, x11, x12, x13, x14, x15, x16, x17, x18, x19, x20, x21, x22, x23, rfl⟩ := len24 hlen
          have hG := hI.1
          replace hI := hI.2
          have f0 := hide hI.1
          replace hI := hI.2
          have f1 := hide hI.1
          replace hI := hI.2
          have f2 := hide hI.1
          replace hI := hI.2
          have f3 := hide hI.1
          replace hI := hI.2
          have f4 := hide hI.1
          replace hI := hI.2
          have f5 := hide hI.1
          replace hI := hI.2
          have f6 := hide hI.1
          replace hI := hI.2
          have f7 := hide hI.1
          replace hI := hI.2
          have f8 := hide hI.1
          replace hI := hI.2
          have f9 := hide hI.1
          replace hI := hI.2
          have f10 := hide hI.1
          replace hI := hI.2
          have f11 := hide hI.1
          replace hI := hI.2
          have f12 := hide hI.1
          replace hI := hI.2
          have f13 := hide hI.1
          replace hI := hI.2
          have f14 := hide hI.1
          replace hI := hI.2
          have f15 := hide hI.1
          replace hI := hI.2
          have f16 := hide hI.1
          replace hI := hI.2
          have f17 := hide hI.1
          replace hI := hI.2
          have f18 := hide hI.1
          replace hI := hI.2
          have f19 := hide hI.1
          replace hI := hI.2
          have f20 := hide hI.1
          replace hI := hI.2
          have f21 := hide hI.1
          replace hI := hI.2
          have f22 := hide hI.1
          replace hI := hI.2
          have f23 := hide hI
          clear hI
          have r00 := hG.1.size
          obtain rfl := f14.out (hD.on 14 (by kernel_rfl))
          try simp only [puts, Act.put, List.setIfInBounds_toArray, List.set_cons_zero, List.set_cons_succ]
          have r0 := hG.1.cell bY (show wr.heap.size ≠ w.heap.size + 1 + 1 by omega) (by decide) 5 rfl
          go_simp
          exact hK.out _ _ _ (by simp only [puts, Act.put, List.setIfInBounds_toArray, List.set_cons_zero, List.set_cons_succ] <;> rfl) ⟨hG, (fun h => f0.out h), (fun h => f1.out h), (fun h => f2.out h), (fun h => f3.out h), (fun h => f4.out h), (fun h => f5.out h), (fun h => f6.out h), (fun h => f7.out h), (fun h => f8.out h), (fun h => f9.out h), (fun h => f10.out h), (fun h => f11.out h), (fun h => f12.out h), (fun h => f13.out h), (fun h => f14.out h), (fun _ => rfl), (fun h => f16.out h), (fun h => f17.out h), (fun h => f18.out h), (fun h => f19.out h), (fun h => f20.out h), (fun h => f21.out h), (fun h => f22.out h), (fun h => f23.out h)⟩
        · intro L vs W hlen hL hD hI K hK
          obtain ⟨x0, x1, x2, x3, x4, x5, x6, x7, x8, x9, x10, x11, x12, x13, x14, x15, x16, x17, x18, x19, x20, x21, x22, x23, rfl⟩ := len24 hlen
          have hG := hI.1
          replace hI := hI.2
          have f0 := hide hI.1
          replace hI := hI.2
          have f1 := hide hI.1
          replace hI := hI.2
          have f2 := hide hI.1
          replace hI := hI.2
          have f3 := hide hI.1
          replace hI := hI.2
          have f4 := hide hI.1
          replace hI := hI.2
          have f5 := hide hI.1
          replace hI := hI.2
          have f6 := hide hI.1
          replace hI := hI.2
          have f7 := hide hI.1
          replace hI := hI.2
          have f8 := hide hI.1
          replace hI := hI.2
          have f9 := hide hI.1
          replace hI := hI.2
          have f10 := hide hI.1
          replace hI := hI.2
          have f11 := hide hI.1
          replace hI := hI.2
          have f12 := hide hI.1
          replace hI := hI.2
          have f13 := hide hI.1
          replace hI := hI.2
          have f14 := hide hI.1
          replace hI := hI.2
          have f15 := hide hI.1
          replace hI := hI.2
          have f16 := hide hI.1
          replace hI := hI.2
          have f17 := hide hI.1
          replace hI := hI.2
          have f18 := hide hI.1
          replace hI := hI.2
          have f19 := hide hI.1
          replace hI := hI.2
          have f20 := hide hI.1
          replace hI := hI.2
          have f21 := hide hI.1
          replace hI := hI.2
          have f22 := hide hI.1
          replace hI := hI.2
          have f23 := hide hI
          clear hI
          have r00 := hG.1.size
          try simp only [puts, Act.put, List.setIfInBounds_toArray, List.set_cons_zero, List.set_cons_succ]
          try go_simp
          exact hK.out _ _ _ (by simp only [puts, Act.put, List.setIfInBounds_toArray, List.set_cons_zero, List.set_cons_succ] <;> rfl) ⟨hG, (fun h => f0.out h), (fun h => f1.out h), (fun h => f2.out h), (fun h => f3.out h), (fun h => f4.out h), (fun h => f5.out h), (fun h => f6.out h), (fun h => f7.out h), (fun h => f8.out h), (fun h => f9.out h), (fun h => f10.out h), (fun h => f11.out h), (fun h => f12.out h), (fun h => f13.out h), (fun h => f14.out h), (fun h => f15.out h), (fun _ => rfl), (fun h => f17.out h), (fun h => f18.out h), (fun h => f19.out h), (fun h => f20.out h), (fun h => f21.out h), (fun h => f22.out h), (fun h => f23.out h)⟩
        · intro L vs W hlen hL hD hI K hK
          obtain ⟨x0, x1, x2, x3, x4, x5, x6, x7, x8, x9, x10, x11, x12, x13, x14, x15, x16, x17, x18, x19, x20, x21, x22, x23, rfl⟩ := len24 hlen
          have hG := hI.1
          replace hI := hI.2
          have f0 := hide hI.1
          replace hI := hI.2
          have f1 := hide hI.1
          replace hI := hI.2
          have f2 := hide hI.1
          replace hI := hI.2
          have f3 := hide hI.1
          replace hI := hI.2
          have f4 := hide hI.1
          replace hI := hI.2
          have f5 := hide hI.1
          replace hI := hI.2
          have f6 := hide hI.1
          replace hI := hI.2
          have f7 := hide hI.1
          replace hI := hI.2
          have f8 := hide hI.1
          replace hI := hI.2
          have f9 := hide hI.1
          replace hI := hI.2
          have f10 := hide hI.1
          replace hI := hI.2
          have f11 := hide hI.1
          replace hI := hI.2
          have f12 := hide hI.1
          replace hI := hI.2
          have f13 := hide hI.1
          replace hI := hI.2
          have f14 := hide hI.1
          replace hI := hI.2
          have f15 := hide hI.1
          replace hI := hI.2
          have f16 := hide hI.1
          replace hI := hI.2
          have f17 := hide hI.1
          replace hI := hI.2
          have f18 := hide hI.1
          replace hI := hI.2
          have f19 := hide hI.1
          replace hI := hI.2
          have f20 := hide hI.1
          replace hI := hI.2
          have f21 := hide hI.1
          replace hI := hI.2
          have f22 := hide hI.1
          replace hI := hI.2
          have f23 := hide hI
          clear hI
          have r00 := hG.1.size
          obtain rfl := f15.out (hD.on 15 (by kernel_rfl))
          obtain rfl := f16.out (hD.on 16 (by kernel_rfl))
          try simp only [puts, Act.put, List.setIfInBounds_toArray, List.set_cons_zero, List.set_cons_succ]
          try go_simp
          refine (HB2.out _).mono ?_
          rintro e W' ⟨v13, rfl, hi13, hb⟩
          try go_simp
          exact hK.out _ _ _ (by simp only [puts, Act.put, List.setIfInBounds_toArray, List.set_cons_zero, List.set_cons_succ] <;> rfl) ⟨⟨hG.1.then hb, fun h => (hG.2.1 h).later hb, fun h => (hG.2.2 h).later' hb⟩, (fun h => f0.out h), (fun h => f1.out h), (fun h => f2.out h), (fun h => f3.out h), (fun h => f4.out h), (fun h => f5.out h), (fun h => f6.out h), (fun h => f7.out h), (fun h => f8.out h), (fun h => f9.out h), (fun h => f10.out h), (fun h => f11.out h), (fun h => f12.out h), (fun h => (fun h => let ⟨a, m, e, hi⟩ := h; ⟨a, m, e, hi.keeps (keeps_frmY_below hb)⟩) (f13.out h)), (fun h => f14.out h), (fun h => f15.out h), (fun h => f16.out h), (fun _ => let ⟨a, m, e, _⟩ := hi13; ⟨a, m, e, hi13.keeps (keeps_frmY_le _ _ (by omega))⟩), (fun h => f18.out h), (fun h => (fun h => absurd (h.1.2.symm.trans hL) (by decide)) (f19.out h)), (fun h => (fun h => absurd (h.1.2.symm.trans hL) (by decide)) (f20.out h)), (fun h => (fun h => absurd (h.1.2.symm.trans hL) (by decide)) (f21.out h)), (fun h => f22.out h), (fun h => (fun h => ⟨h.1, let ⟨g1, c1, e, hk⟩ := h.2; ⟨g1, c1, e, hk.later hb⟩⟩) (f23.out h))⟩
        · intro L vs W hlen hL hD hI K hK
          obtain ⟨x0, x1, x2, x3, x4, x5, x6, x7, x8, x9, x10, x11, x12, x13, x14, x15, x16, x17, x18, x19, x20, x21, x22, x23, rfl⟩ := len24 hlen
          have hG := hI.1
          replace hI := hI.2
          have f0 := hide hI.1
          replace hI := hI.2
          have f1 := hide hI.1
          replace hI := hI.2
          have f2 := hide hI.1
          replace hI := hI.2
          have f3 := hide hI.1
          replace hI := hI.2
          have f4 := hide hI.1
          replace hI := hI.2
          have f5 := hide hI.1
          replace hI := hI.2
          have f6 := hide hI.1
          replace hI := hI.2
          have f7 := hide hI.1
          replace hI := hI.2
          have f8 := hide hI.1
          replace hI := hI.2
          have f9 := hide hI.1
          replace hI := hI.2
          have f10 := hide hI.1
          replace hI := hI.2
          have f11 := hide hI.1
          replace hI := hI.2
          have f12 := hide hI.1
          replace hI := hI.2
          have f13 := hide hI.1
          replace hI := hI.2
          have f14 := hide hI.1
          replace hI := hI.2
          have f15 := hide hI.1
          replace hI := hI.2
          have f16 := hide hI.1
          replace hI := hI.2
          have f17 := hide hI.1
          replace hI := hI.2
          have f18 := hide hI.1
          replace hI := hI.2
          have f19 := hide hI.1
          replace hI := hI.2
          have f20 := hide hI.1
          replace hI := hI.2
          have f21 := hide hI.1
          replace hI := hI.2
          have f22 := hide hI.1
          replace hI := hI.2
          have f23 := hide hI
          clear hI
          have r00 := hG.1.size
          try simp only [puts, Act.put, List.setIfInBounds_toArray, List.set_cons_zero, List.set_cons_succ]
          try go_simp
          exact hK.out _ _ _ (by simp only [puts, Act.put, List.setIfInBounds_toArray, List.set_cons_zero, List.set_cons_succ] <;> rfl) ⟨hG, (fun h => f0.out h), (fun h => f1.out h), (fun h => f2.out h), (fun h => f3.out h), (fun h => f4.out h), (fun h => f5.out h), (fun h => f6.out h), (fun h => f7.out h), (fun h => f8.out h), (fun h => f9.out h), (fun h => f10.out h), (fun h => f11.out h), (fun h => f12.out h), (fun h => f13.out h), (fun h => f14.out h), (fun h => f15.out h), (fun h => f16.out h), (fun h => f17.out h), (fun _ => rfl), (fun h => f19.out h), (fun h => f20.out h), (fun h => f21.out h), (fun h => f22.out h), (fun h => f23.out h)⟩
        · intro L vs W hlen hL hD hI K hK
          obtain ⟨x0, x1, x2, x3, x4, x5, x6, x7, x8, x9, x10, x11, x12, x13, x14, x15, x16, x17, x18, x19, x20, x21, x22, x23, rfl⟩ := len24 hlen
          have hG := hI.1
          replace hI := hI.2
          have f0 := hide hI.1
          replace hI := hI.2
          have f1 := hide hI.1
          replace hI := hI.2
          have f2 := hide hI.1
          replace hI := hI.2
          have f3 := hide hI.1
          replace hI := hI.2
          have f4 := hide hI.1
          replace hI := hI.2
          have f5 := hide hI.1
          replace hI := hI.2
          have f6 := hide hI.1
          replace hI := hI.2
          have f7 := hide hI.1
          replace hI := hI.2
          have f8 := hide hI.1
          replace hI := hI.2
          have f9 := hide hI.1
          replace hI := hI.2
          have f10 := hide hI.1
          replace hI := hI.2
          have f11 := hide hI.1
          replace hI := hI.2
          have f12 := hide hI.1
          replace hI := hI.2
          have f13 := hide hI.1
          replace hI := hI.2
          have f14 := hide hI.1
          replace hI := hI.2
          have f15 := hide hI.1
          replace hI := hI.2
          have f16 := hide hI.1
          replace hI := hI.2
          have f17 := hide hI.1
          replace hI := hI.2
          have f18 := hide hI.1
          replace hI := hI.2
          have f19 := hide hI.1
          replace hI := hI.2
          have f20 := hide hI.1
          replace hI := hI.2
          have f21 := hide hI.1
          replace hI := hI.2
          have f22 := hide hI.1
          replace hI := hI.2
          have f23 := hide hI
          clear hI
          have r00 := hG.1.size
          obtain rfl := f4.out (hD.on 4 (by kernel_rfl))
          obtain rfl := f9.out (hD.on 9 (by kernel_rfl))
          have g13 := f13.out (hD.on 13 (by kernel_rfl))
          have g17 := f17.out (hD.on 17 (by kernel_rfl))
          obtain rfl := f18.out (hD.on 18 (by kernel_rfl))
          try simp only [puts, Act.put, List.setIfInBounds_toArray, List.set_cons_zero, List.set_cons_succ]
          obtain ⟨a13, n13, rfl, -⟩ := g13
          obtain ⟨a17, n17, rfl, -⟩ := g17
          go_simp
          exact hK.out _ _ _ (by simp only [puts, Act.put, List.setIfInBounds_toArray, List.set_cons_zero, List.set_cons_succ] <;> rfl) ⟨hG, (fun h => f0.out h), (fun h => f1.out h), (fun h => f2.out h), (fun h => f3.out h), (fun h => f4.out h), (fun h => f5.out h), (fun h => f6.out h), (fun h => f7.out h), (fun h => f8.out h), (fun h => f9.out h), (fun h => f10.out h), (fun h => f11.out h), (fun h => f12.out h), (fun h => f13.out h), (fun h => f14.out h), (fun h => f15.out h), (fun h => f16.out h), (fun h => f17.out h), (fun h => f18.out h), (fun _ => ⟨⟨hD.on 13 (by kernel_rfl), hD.on 17 (by kernel_rfl)⟩, rfl⟩), (fun h => f20.out h), (fun h => f21.out h), (fun h => f22.out h), (fun h => f23.out h)⟩
        · intro L vs W hlen hL hD hI K hK
          obtain ⟨x0, x1, x2, x3, x4, x5, x6, x7, x8, x9, x10, x11, x12, x13, x14, x15, x16, x17, x18, x19, x20, x21, x22, x23, rfl⟩ := len24 hlen
          have hG := hI.1
          replace hI := hI.2
          have f0 := hide hI.1
          replace hI := hI.2
          have f1 := hide hI.1
          replace hI := hI.2
          have f2 := hide hI.1
          replace hI := hI.2
          have f3 := hide hI.1
          replace hI := hI.2
          have f4 := hide hI.1
          replace hI := hI.2
          have f5 := hide hI.1
          replace hI := hI.2
          have f6 := hide hI.1
          replace hI := hI.2
          have f7 := hide hI.1
          replace hI := hI.2
          have f8 := hide hI.1
          replace hI := hI.2
          have f9 := hide hI.1
          replace hI := hI.2
          have f10 := hide hI.1
          replace hI := hI.2
          have f11 := hide hI.1
          replace hI := hI.2
          have f12 := hide hI.1
          replace hI := hI.2
          have f13 := hide hI.1
          replace hI := hI.2
          have f14 := hide hI.1
          replace hI := hI.2
          have f15 := hide hI.1
          replace hI := hI.2
          have f16 := hide hI.1
          replace hI := hI.2
          have f17 := hide hI.1
          replace hI := hI.2
          have f18 := hide hI.1
          replace hI := hI.2
          have f19 := hide hI.1
          replace hI := hI.2
          have f20 := hide hI.1
          replace hI := hI.2
          have f21 := hide hI.1
          replace hI := hI.2
          have f22 := hide hI.1
          replace hI := hI.2
          have f23 := hide hI
          clear hI
          have r00 := hG.1.size
          have g19 := f19.out (hD.on 19 (by kernel_rfl))
          try simp only [puts, Act.put, List.setIfInBounds_toArray, List.set_cons_zero, List.set_cons_succ]
          obtain rfl := g19.2
          have g13 := f13.out g19.1.1
          have g17 := f17.out g19.1.2
          obtain ⟨a13, n13, rfl, -⟩ := g13
          obtain ⟨a17, n17, rfl, -⟩ := g17
          go_simp
          generalize hW' : World.alloc W _ = W'
          have hb : Below W.heap.size W W' := by rw [← hW']; exact bal W _
          exact hK.out _ _ _ (by simp only [puts, Act.put, List.setIfInBounds_toArray, List.set_cons_zero, List.set_cons_succ] <;> rfl) ⟨⟨hG.1.then hb, fun h => (hG.2.1 h).later hb, fun h => (hG.2.2 h).later' hb⟩, (fun h => f0.out h), (fun h => f1.out h), (fun h => f2.out h), (fun h => f3.out h), (fun h => f4.out h), (fun h => f5.out h), (fun h => f6.out h), (fun h => f7.out h), (fun h => f8.out h), (fun h => f9.out h), (fun h => f10.out h), (fun h => f11.out h), (fun h => f12.out h), (fun h => (fun h => let ⟨a, m, e, hi⟩ := h; ⟨a, m, e, hi.keeps (keeps_frmY_below hb)⟩) (f13.out h)), (fun h => f14.out h), (fun h => f15.out h), (fun h => f16.out h), (fun h => (fun h => let ⟨a, m, e, hi⟩ := h; ⟨a, m, e, hi.keeps (keeps_frmY_below hb)⟩) (f17.out h)), (fun h => f18.out h), (fun h => f19.out h), (fun _ => ⟨g19.1, fun _ => ⟨W.heap.size, rfl, by rw [← hW']; exact Blk.newA W _ rfl⟩⟩), (fun h => (fun h => ⟨h.1, let ⟨g1, c1, e, ho⟩ := h.2; ⟨g1, c1, e, ho.later' hb⟩⟩) (f21.out h)), (fun h => f22.out h), (fun h => (fun h => ⟨h.1, let ⟨g1, c1, e, hk⟩ := h.2; ⟨g1, c1, e, hk.later hb⟩⟩) (f23.out h))⟩
        · intro L vs W hlen hL hD hI K hK
          obtain ⟨x0, x1, x2, x3, x4, x5, x6, x7, x8, x9, x10, x11, x12, x13, x14, x15, x16, x17, x18, x19, x20, x21, x22, x23, rfl⟩ := len24 hlen
          have hG := hI.1
          replace hI := hI.2
          have f0 := hide hI.1
          replace hI := hI.2
          have f1 := hide hI.1
          replace hI := hI.2
          have f2 := hide hI.1
          replace hI := hI.2
          have f3 := hide hI.1
          replace hI := hI.2
          have f4 := hide hI.1
          replace hI := hI.2
          have f5 := hide hI.1
          replace hI := hI.2
          have f6 := hide hI.1
          replace hI := hI.2
          have f7 := hide hI.1
          replace hI := hI.2
          have f8 := hide hI.1
          replace hI := hI.2
          have f9 := hide hI.1
          replace hI := hI.2
          have f10 := hide hI.1
          replace hI := hI.2
          have f11 := hide hI.1
          replace hI := hI.2
          have f12 := hide hI.1
          replace hI := hI.2
          have f13 := hide hI.1
          replace hI := hI.2
          have f14 := hide hI.1
          replace hI := hI.2
          have f15 := hide hI.1
          replace hI := hI.2
          have f16 := hide hI.1
          replace hI := hI.2
          have f17 := hide hI.1
          replace hI := hI.2
          have f18 := hide hI.1
          replace hI := hI.2
          have f19 := hide hI.1
          replace hI := hI.2
          have f20 := hide hI.1
          replace hI := hI.2
          have f21 := hide hI.1
          replace hI := hI.2
          have f22 := hide hI.1
          replace hI := hI.2
          have f23 := hide hI
          clear hI
          have r00 := hG.1.size
          obtain rfl := f1.out (hD.on 1 (by kernel_rfl))
          have g20 := f20.out (hD.on 20 (by kernel_rfl))
          try simp only [puts, Act.put, List.setIfInBounds_toArray, List.set_cons_zero, List.set_cons_succ]
          have g13 := f13.out g20.1.1
          have g17 := f17.out g20.1.2
          obtain ⟨a13, n13, rfl, -⟩ := g13
          obtain ⟨a17, n17, rfl, -⟩ := g17
          obtain ⟨b0, rfl, hB0⟩ := g20.2 hL
          refine step_one infoClause rfl (by decide) Tryz.underlying28 rfl _ _ rfl (w.heap.size + 1 + 1 + 1) _ Lr rfl (hG.2.2 hL) b0 _ rfl hB0 rfl (clauseC_one (x := ⟨P0, S0, S1, [], [], g⟩)) (by omega) (by omega) (by omega) ?_
          intro g1 c1 W' hO' hE'
          have hb : True := trivial
          exact hK.out _ _ _ (by simp only [puts, Act.put, List.setIfInBounds_toArray, List.set_cons_zero, List.set_cons_succ] <;> rfl) ⟨⟨hG.1.app hE', fun h => hE'.blk (hG.2.1 h) (by decide), fun h => (by cases h)⟩, (fun h => f0.out h), (fun h => f1.out h), (fun h => f2.out h), (fun h => f3.out h), (fun h => f4.out h), (fun h => f5.out h), (fun h => f6.out h), (fun h => f7.out h), (fun h => f8.out h), (fun h => f9.out h), (fun h => f10.out h), (fun h => f11.out h), (fun h => f12.out h), (fun h => (fun h => let ⟨a, m, e, hi⟩ := h; ⟨a, m, e, hi.keeps (keeps_frmY_eff hE' (by decide))⟩) (f13.out h)), (fun h => f14.out h), (fun h => f15.out h), (fun h => f16.out h), (fun h => (fun h => let ⟨a, m, e, hi⟩ := h; ⟨a, m, e, hi.keeps (keeps_frmY_eff hE' (by decide))⟩) (f17.out h)), (fun h => f18.out h), (fun h => f19.out h), (fun h => (fun h => ⟨h.1, fun h21 => by cases h21⟩) (f20.out h)), (fun _ => ⟨g20.1, g1, c1, rfl, hO'⟩), (fun h => f22.out h), (fun h => (fun h => absurd (h.1.2.symm.trans hL) (by decide)) (f23.out h))⟩
        · intro L vs W hlen hL hD hI K hK
          obtain ⟨x0, x1, x2, x3, x4, x5, x6, x7, x8, x9, x10, x11, x12, x13, x14, x15, x16, x17, x18, x19, x20, x21, x22, x23, rfl⟩ := len24 hlen
          have hG := hI.1
          replace hI := hI.2
          have f0 := hide hI.1
          replace hI := hI.2
          have f1 := hide hI.1
          replace hI := hI.2
          have f2 := hide hI.1
          replace hI := hI.2
          have f3 := hide hI.1
          replace hI := hI.2
          have f4 := hide hI.1
          replace hI := hI.2
          have f5 := hide hI.1
          replace hI := hI.2
          have f6 := hide hI.1
          replace hI := hI.2
          have f7 := hide hI.1
          replace hI := hI.2
          have f8 := hide hI.1
          replace hI := hI.2
          have f9 := hide hI.1
          replace hI := hI.2
          have f10 := hide hI.1
          replace hI := hI.2
          have f11 := hide hI.1
          replace hI := hI.2
          have f12 := hide hI.1
          replace hI := hI.2
          have f13 := hide hI.1
          replace hI := hI.2
          have f14 := hide hI.1
          replace hI := hI.2
          have f15 := hide hI.1
          replace hI := hI.2
          have f16 := hide hI.1
          replace hI := hI.2
          have f17 := hide hI.1
          replace hI := hI.2
          have f18 := hide hI.1
          replace hI := hI.2
          have f19 := hide hI.1
          replace hI := hI.2
          have f20 := hide hI.1
          replace hI := hI.2
          have f21 := hide hI.1
          replace hI := hI.2
          have f22 := hide hI.1
          replace hI := hI.2
          have f23 := hide hI
          clear hI
          have r00 := hG.1.size
          try simp only [puts, Act.put, List.setIfInBounds_toArray, List.set_cons_zero, List.set_cons_succ]
          try go_simp
          exact hK.out _ _ _ (by simp only [puts, Act.put, List.setIfInBounds_toArray, List.set_cons_zero, List.set_cons_succ] <;> rfl) ⟨hG, (fun h => f0.out h), (fun h => f1.out h), (fun h => f2.out h), (fun h => f3.out h), (fun h => f4.out h), (fun h => f5.out h), (fun h => f6.out h), (fun h => f7.out h), (fun h => f8.out h), (fun h => f9.out h), (fun h => f10.out h), (fun h => f11.out h), (fun h => f12.out h), (fun h => f13.out h), (fun h => f14.out h), (fun h => f15.out h), (fun h => f16.out h), (fun h => f17.out h), (fun h => f18.out h), (fun h => f19.out h), (fun h => f20.out h), (fun h => f21.out h), (fun _ => rfl), (fun h => f23.out h)⟩
        · intro L vs W hlen hL hD hI K hK
          obtain ⟨x0, x1, x2, x3, x4, x5, x6, x7, x8, x9, x10, x11, x12, x13, x14, x15, x16, x17, x18, x19, x20, x21, x22, x23, rfl⟩ := len24 hlen
          have hG := hI.1
          replace hI := hI.2
          have f0 := hide hI.1
          replace hI := hI.2
          have f1 := hide hI.1
          replace hI := hI.2
          have f2 := hide hI.1
          replace hI := hI.2
          have f3 := hide hI.1
          replace hI := hI.2
          have f4 := hide hI.1
          replace hI := hI.2
          have f5 := hide hI.1
          replace hI := hI.2
          have f6 := hide hI.1
          replace hI := hI.2
          have f7 := hide hI.1
          replace hI := hI.2
          have f8 := hide hI.1
          replace hI := hI.2
          have f9 := hide hI.1
          replace hI := hI.2
          have f10 := hide hI.1
          replace hI := hI.2
          have f11 := hide hI.1
          replace hI := hI.2
          have f12 := hide hI.1
          replace hI := hI.2
          have f13 := hide hI.1
          replace hI := hI.2
          have f14 := hide hI.1
          replace hI := hI.2
          have f15 := hide hI.1
          replace hI := hI.2
          have f16 := hide hI.1
          replace hI := hI.2
          have f17 := hide hI.1
          replace hI := hI.2
          have f18 := hide hI.1
          replace hI := hI.2
          have f19 := hide hI.1
          replace hI := hI.2
          have f20 := hide hI.1
          replace hI := hI.2
          have f21 := hide hI.1
          replace hI := hI.2
          have f22 := hide hI.1
          replace hI := hI.2
          have f23 := hide hI
          clear hI
          have r00 := hG.1.size
          obtain rfl := f1.out (hD.on 1 (by kernel_rfl))
          have g21 := f21.out (hD.on 21 (by kernel_rfl))
          obtain rfl := f22.out (hD.on 22 (by kernel_rfl))
          try simp only [puts, Act.put, List.setIfInBounds_toArray, List.set_cons_zero, List.set_cons_succ]
          obtain ⟨-, g1, c1, rfl, hO1⟩ := g21
          have bC0 := hG.2.1 hL
          have z0 := bC0.frozen 0
          have z1 := bC0.cell 0 rfl
          go_simp
          have hb : True := trivial
          exact hK.out _ undef _ (by simp only [puts, Act.put, List.setIfInBounds_toArray, List.set_cons_zero, List.set_cons_succ] <;> rfl) ⟨⟨hG.1.set 0 _, fun h => (by cases h), fun h => absurd (h.symm.trans (hD.on 21 (by kernel_rfl))) (by decide)⟩, (fun h => f0.out h), (fun h => f1.out h), (fun h => f2.out h), (fun h => f3.out h), (fun h => f4.out h), (fun h => f5.out h), (fun h => f6.out h), (fun h => f7.out h), (fun h => f8.out h), (fun h => f9.out h), (fun h => f10.out h), (fun h => f11.out h), (fun h => f12.out h), (fun h => (fun h => let ⟨a, m, e, hi⟩ := h; ⟨a, m, e, hi.keeps (keeps_frmY_set bC0 (by decide) 0 _)⟩) (f13.out h)), (fun h => f14.out h), (fun h => f15.out h), (fun h => f16.out h), (fun h => (fun h => let ⟨a, m, e, hi⟩ := h; ⟨a, m, e, hi.keeps (keeps_frmY_set bC0 (by decide) 0 _)⟩) (f17.out h)), (fun h => f18.out h), (fun h => f19.out h), (fun h => (fun h => ⟨h.1, fun h21 => absurd (h21.symm.trans (hD.on 21 (by kernel_rfl))) (by decide)⟩) (f20.out h)), (fun h => (fun h => ⟨h.1, let ⟨g2, c2, e, ho⟩ := h.2; ⟨g2, c2, e, ho.setO bC0 (by decide) _⟩⟩) (f21.out h)), (fun h => f22.out h), (fun _ => ⟨⟨hD.on 1 (by kernel_rfl), hD.on 21 (by kernel_rfl)⟩, g1, c1, rfl, bC0.set 0 _⟩)⟩
      intro L vs W hlen hall hI
      obtain ⟨x0, x1, x2, x3, x4, x5, x6, x7, x8, x9, x10, x11, x12, x13, x14, x15, x16, x17, x18, x19, x20, x21, x22, x23, rfl⟩ := len24 hlen
      have hG := hI.1
      replace hI := hI.2
      have f0 := hide hI.1
      replace hI := hI.2
      have f1 := hide hI.1
      replace hI := hI.2
      have f2 := hide hI.1
      replace hI := hI.2
      have f3 := hide hI.1
      replace hI := hI.2
      have f4 := hide hI.1
      replace hI := hI.2
      have f5 := hide hI.1
      replace hI := hI.2
      have f6 := hide hI.1
      replace hI := hI.2
      have f7 := hide hI.1
      replace hI := hI.2
      have f8 := hide hI.1
      replace hI := hI.2
      have f9 := hide hI.1
      replace hI := hI.2
      have f10 := hide hI.1
      replace hI := hI.2
      have f11 := hide hI.1
      replace hI := hI.2
      have f12 := hide hI.1
      replace hI := hI.2
      have f13 := hide hI.1
      replace hI := hI.2
      have f14 := hide hI.1
      replace hI := hI.2
      have f15 := hide hI.1
      replace hI := hI.2
      have f16 := hide hI.1
      replace hI := hI.2
      have f17 := hide hI.1
      replace hI := hI.2
      have f18 := hide hI.1
      replace hI := hI.2
      have f19 := hide hI.1
      replace hI := hI.2
      have f20 := hide hI.1
      replace hI := hI.2
      have f21 := hide hI.1
      replace hI := hI.2
      have f22 := hide hI.1
      replace hI := hI.2
      have f23 := hide hI
      clear hI
      obtain rfl := f0.out (hall 0 (by decide))
      obtain rfl := f1.out (hall 1 (by decide))
      obtain rfl := f2.out (hall 2 (by decide))
      obtain rfl := f3.out (hall 3 (by decide))
      obtain rfl := f4.out (hall 4 (by decide))
      obtain rfl := f5.out (hall 5 (by decide))
      obtain rfl := f6.out (hall 6 (by decide))
      obtain rfl := f7.out (hall 7 (by decide))
      obtain rfl := f8.out (hall 8 (by decide))
      obtain rfl := f9.out (hall 9 (by decide))
      obtain rfl := f10.out (hall 10 (by decide))
      obtain rfl := f11.out (hall 11 (by decide))
      obtain rfl := f12.out (hall 12 (by decide))
      have g13 := f13.out (hall 13 (by decide))
      obtain rfl := f14.out (hall 14 (by decide))
      obtain rfl := f15.out (hall 15 (by decide))
      obtain rfl := f16.out (hall 16 (by decide))
      have g17 := f17.out (hall 17 (by decide))
      obtain rfl := f18.out (hall 18 (by decide))
      have g19 := f19.out (hall 19 (by decide))
      have g20 := f20.out (hall 20 (by decide))
      have g21 := f21.out (hall 21 (by decide))
      obtain rfl := f22.out (hall 22 (by decide))
      have g23 := f23.out (hall 23 (by decide))
      have hal := hide hall
      clear hall f0 f1 f2 f3 f4 f5 f6 f7 f8 f9 f10 f11 f12 f13 f14 f15 f16 f17 f18 f19 f20 f21 f22 f23
      try simp only [puts, Act.put, List.setIfInBounds_toArray, List.set_cons_zero, List.set_cons_succ]
      obtain ⟨a13, n13, e13, hi13⟩ := g13
      obtain ⟨a17, n17, e17, hi17⟩ := g17
      obtain ⟨-, g1, c1, e21, hO21⟩ := g21
      obtain ⟨-, g2, c2, e22, hC23⟩ := g23
      have hcl' := clauses_app HLL.out HLS.out hG.1 bC1 (by decide) (by decide) (x := ⟨P0, S0, S1, N1, N2, g⟩) hi13 hi17 hO21
      have HN2 := hide (hG.1.blk HBN.out (show w.heap.size ≠ w.heap.size + 1 + 1 by omega) (by decide))
      have HR2 := hide (hG.1.blk HBR.out (show w.heap.size + 1 ≠ w.heap.size + 1 + 1 by omega) (by decide))
      have HB2 := hide (keeps_low_effY hG.1 (show w.heap.size ≤ w.heap.size + 1 + 1 + 1 by omega) (show w.heap.size ≤ w.heap.size + 1 + 1 by omega) HBB.out)
      have HS2 : Hid (w.heap.size + 1 + 1 + 1 ≤ W.heap.size) := hide (by have := hG.1.size; omega)
      have HCL := hide hcl'
      have HC2 := hide hC23
      clear hcl' hi13 hi17 hO21 hC23 hG bY hOR bC1 hal
      subst e13 e17 e21
      clear e22
      go_wp2_with fail
      go_roundw
      case rel => exact ⟨k + 1, _, by have := HK.out; omega, by go_num, by rw [HTK.out, HMC.out]; exact HCL.out, HC2.out, HN2.out, HR2.out, HB2.out, HS2.out⟩
      case measure => have := HK.out; simp [intOf]; omega
    · have hT : (x.clauses.take k) = x.clauses.take 8 := by
        have hkk : k = min x.clauses.length 8 := by omega
        rcases Nat.le_total x.clauses.length 8 with h8 | h8
        · rw [Nat.min_eq_left h8] at hkk
          rw [List.take_of_length_le (by omega), List.take_of_length_le h8]
        · rw [Nat.min_eq_right h8] at hkk
          rw [hkk]
      rw [hT] at hown
      have HO := hide hown
      have hlts : ¬ (k : Int) < x.clauses.length ∨ ((k : Int) < x.clauses.length ∧ ¬ (k : Int) < 8) := by omega
      clear hT hown
      rcases hlts with hlt3 | ⟨hlt3, hlt4⟩
      all_goals (
        go_wp2_with fail
        exact hexit _ _ _ _ _ _ _ _ _ _ _ _ _ _ _ _ _ _ _ _ _ _ _ _ _ _ _ _ _ _ _ _ _ _ _ _ _ _ _ _ _ _ _ _ _ wr cv HO.out hbC hbN hbR hbr hsz)
end Go.Proofs.YtdjldidfnddpmaaGreatDoor
