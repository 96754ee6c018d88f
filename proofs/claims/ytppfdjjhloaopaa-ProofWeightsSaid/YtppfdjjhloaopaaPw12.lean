/- The walk of Solve of package program. Conditions: how the arguments lie in memory. -/
import Derived.Test.YtppfdjjhloaopaaPw11
import Derived.Deep.RegionHeld3
import Derived.Deep.RegionLawGrows
namespace Go.Proofs.Ytppfdjjhloaopaa
open Go.RowKit Go.Shelf
attribute [local go_sem] Oper.semAt_some

/-- a solution in memory -/
def SolIn (c : Rd) (v : Value) (s : SolD) : Prop := ∃ pv, v = .agg #[.bool s.found, .int .i64 s.set, .int .i64 s.gain, pv] ∧ StepsIn c pv s.proof
theorem SolIn.keeps {c c' : Rd} {v : Value} {s : SolD} (hk : Keeps c c') (h : SolIn c v s) : SolIn c' v s := let ⟨pv, e, h1⟩ := h; ⟨pv, e, h1.keeps hk⟩
theorem Blk.own {β : Type} (b : Nat) (f : β → List Value) (t : TypeId) : Own (fun (s : β) W => Blk W b (f s) t) := fun s W W' row hs hg hr => by
  refine (hg.block b hs.lt (fun e => ?_)).trans hs
  obtain ⟨o, ho, hc⟩ := hr b e.symm
  rw [show W.heap[b]? = _ from hs] at ho; cases ho; cases hc
theorem own_size {β : Type} (B n : Nat) : OwnFrom B (fun (_ : β) W => n ≤ W.heap.size) := fun _ _ _ _ hs hg _ => Nat.le_trans hs hg.size
theorem Blk.other4 {w : World} {b c : Nat} {vs : List Value} {t : TypeId} (h : Blk w b vs t) (hc : b ≠ c) (u0 u1 u2 u3 : Value) :
    Blk ((((w.setCell ⟨c, 0, none⟩ u0).setCell ⟨c, 1, none⟩ u1).setCell ⟨c, 2, none⟩ u2).setCell ⟨c, 3, none⟩ u3) b vs t := (((h.other hc 0 u0).other hc 1 u1).other hc 2 u2).other hc 3 u3
theorem size_set (w : World) (a : Addr) (v : Value) : (w.setCell a v).heap.size = w.heap.size := by simp [World.setCell]
theorem below2' {w W W' : World} (h : Below w.heap.size w W) (k : Below W.heap.size W W') : Below w.heap.size w W' := below2 h k
def solCells (b : BestD) : List Value := [.bool b.found, .int .i64 b.set, .int .i64 b.gain, .slice none 0 0]
theorem news_at (W : World) (us : List Value) (t : TypeId) : ∀ j u, us[j]? = some u → (W.alloc (.cells us.toArray t)).cell? ((⟨W.heap.size, 0, none⟩ : Addr).add j) = some u := fun j u hj => by
  have := (Blk.new W us t).cell j hj
  cases j <;> simpa [Addr.add] using this
theorem below_of_grown {w w' : World} (h : w.grownBy w' none) : Below w.heap.size w w' := ⟨h.os, h.tape, h.output, h.size, fun k hk => h.block k hk (by simp)⟩
theorem infoRow : (Try.prog.info? 67).map (fun i => (i.zero, i.size, i.bytes)) = some (some (.agg #[.int .i64 0, .int .i64 0, .int .i64 0, .int .i64 0, .slice none 0 0, .int .i64 0]), 6, 64) := by kernel_rfl
def rowCells (r : RowD) (cv : Value) : List Value := [.int .i64 r.kind, .int .i64 r.a, .int .i64 r.b, .int .i64 r.at_, cv, .int .i64 r.most]
theorem rows_list {c : Rd} {ao : Option Addr} {m n : Nat} {l : List RowD} (h : RowsIn c (.slice ao m n) l) : ∃ Lr : List (List Value), Lr.length = l.length ∧ (∀ r ∈ Lr, r.length = 6) ∧
    (∀ i, i < l.length → ∃ cv, Lr.getD i [] = rowCells (l.getD i row0) cv ∧ IntsIn c cv (l.getD i row0).coef) ∧ (∀ b, ao = some b → ∀ j u, Lr.flatten[j]? = some u → c (b.add j) = some u) ∧ (ao = none → l = []) := by
  obtain ⟨a, n', e, h1, h2, h3⟩ := h
  cases e
  have h4 : ∀ i : Nat, ∃ cv, i < l.length → ∃ b o, ao = some ⟨b, o, none⟩ ∧ RowIn c b (o + i * 6) cv (l.getD i row0) := fun i => by
    by_cases hi : i < l.length
    · obtain ⟨b, o, cv, e, hc⟩ := h3 i hi
      exact ⟨cv, fun _ => ⟨b, o, e, hc⟩⟩
    · exact ⟨undef, fun h => absurd h hi⟩
  obtain ⟨f, hf⟩ := Classical.axiomOfChoice h4
  have hlen : ((List.range l.length).map fun i => rowCells (l.getD i row0) (f i)).length = l.length := by simp
  have hget : ∀ i, i < l.length → ((List.range l.length).map fun i => rowCells (l.getD i row0) (f i)).getD i [] = rowCells (l.getD i row0) (f i) := fun i hi => by
    rw [List.getD_eq_getElem?_getD, List.getElem?_map, List.getElem?_range hi]; rfl
  have hsix : ∀ r ∈ (List.range l.length).map (fun i => rowCells (l.getD i row0) (f i)), r.length = 6 := fun r hr => by
    obtain ⟨i, -, rfl⟩ := List.mem_map.1 hr; rfl
  refine ⟨(List.range l.length).map fun i => rowCells (l.getD i row0) (f i), hlen, hsix, fun i hi => ⟨f i, hget i hi, ?_⟩, fun b hb j u hj => ?_, fun hn => ?_⟩
  · obtain ⟨b, o, -, h⟩ := hf i hi; exact h.2.2.2.2.2.2
  · have hjl : j < l.length * 6 := by
      have := flat_len hsix
      rw [hlen] at this
      have h5 := (List.getElem?_eq_some_iff.1 hj).1
      omega
    have hd : j / 6 < l.length := by omega
    have e : j / 6 * 6 + j % 6 = j := by omega
    rw [← e, flat_get hsix _ _ (by omega), hget _ hd] at hj
    obtain ⟨b', o, hb', c0, c1, c2, c3, c4, c5, -⟩ := hf _ hd
    rw [hb] at hb'; cases hb'
    have ea : (⟨b', o, none⟩ : Addr).add j = ⟨b', o + j / 6 * 6 + j % 6, none⟩ := by
      rw [Nat.add_assoc, e]
      by_cases h0 : j = 0
      · subst h0; simp [Addr.add]
      · simp [Addr.add, h0]
    rw [ea]
    have h6 : j % 6 < 6 := by omega
    rcases hm : j % 6 with _ | _ | _ | _ | _ | _ | m
    all_goals first | (rw [hm] at hj; simp [rowCells] at hj; subst hj; assumption) | omega
  · cases l with
    | nil => rfl
    | cons x t => obtain ⟨b, o, cv, e, -⟩ := h3 0 (by simp); rw [hn] at e; cases e
theorem OwnR.rows {W : World} {B : Nat} {v : Value} {L : List (List Value)} {l : List RowD} (h : OwnR W B 67 6 v L) (hl : L.length = l.length) (hs : ∀ i, i < l.length → ∃ cv, L.getD i [] = rowCells (l.getD i row0) cv ∧ IntsIn W.cell? cv (l.getD i row0).coef) : RowsAt W v l := by
  rcases h.form with ⟨rfl, e2⟩ | ⟨g, c, cur, rfl, e1, e2, e3, e4⟩
  · rw [e2] at hl
    exact ⟨none, 0, by rw [← hl]; rfl, by rw [← hl]; simp, by omega, fun k hk => by rw [← hl] at hk; simp at hk⟩
  · refine ⟨some ⟨g, 0, none⟩, c, by rw [hl], by omega, by simpa [maxLen] using e4, fun k hk => ?_⟩
    obtain ⟨cv, e, hw⟩ := hs k hk
    have cc : ∀ (j : Nat) (u : Value), j < 6 → (rowCells (l.getD k row0) cv)[j]? = some u → W.cell? ⟨g, 0 + k * 6 + j, none⟩ = some u := fun j u hj hu => by
      rw [Nat.zero_add]; exact h.cell k j (by omega) hj (by rw [e]; exact hu)
    exact ⟨g, 0, cv, rfl, cc 0 _ (by omega) rfl, cc 1 _ (by omega) rfl, cc 2 _ (by omega) rfl, cc 3 _ (by omega) rfl, cc 4 _ (by omega) rfl, cc 5 _ (by omega) rfl, hw⟩
theorem heap_putObj (W : World) (l : Nat) (o : Obj) (k : Nat) (h : k ≠ l) : (W.putObj l o).heap[k]? = W.heap[k]? := by
  simp only [World.putObj, Array.getElem?_setIfInBounds]
  rw [if_neg (Ne.symm h)]
theorem solve_tail (w W W5 : World) (bS bR D : Nat) (pv f s g : Value) {x0 x1 x2 x3 : Value} (hR : Blk W5 bR [x0, x1, x2, x3] 34) (hK : W5.heap[D]? = some (.deferred (some []))) (hb : Below w.heap.size w W5) (h1 : w.heap.size ≤ bS) (h2 : w.heap.size ≤ bR) (h12 : bR ≠ bS)
    (h3 : bS < W.heap.size) (h4 : bR < W.heap.size) (h5 : D < W.heap.size) (h6 : w.heap.size ≤ D) (Wf : World)
    (hWf : World.setCell (World.setCell (World.setCell (World.setCell (World.setCell W5 ⟨bS, 3, none⟩ pv) ⟨bR, 0, none⟩ f) ⟨bR, 1, none⟩ s) ⟨bR, 2, none⟩ g) ⟨bR, 3, none⟩ pv = Wf) :
    Wf.heap[D]? = some (.deferred (some [])) ∧ (∀ i v, [f, s, g, pv][i]? = some v → (Wf.putObj D (.deferred none)).cell? ⟨bR, i, none⟩ = some v) ∧ Keeps (frm W.heap.size W5) (frm w.heap.size (Wf.putObj D (.deferred none))) ∧ Below w.heap.size w (Wf.putObj D (.deferred none)) := by
  obtain ⟨z1, z2, -⟩ := set4 (hR.other h12 3 pv) f s g pv
  have zs := z2 _ _ (hb.setCell (p := ⟨bS, 3, none⟩) h1 pv) h2
  have zK := KeepsOthers.same (((((KeepsOthers.setCell W5 ⟨bS, 3, none⟩ pv).trans (KeepsOthers.setCell _ ⟨bR, 0, none⟩ f)).trans (KeepsOthers.setCell _ ⟨bR, 1, none⟩ s)).trans (KeepsOthers.setCell _ ⟨bR, 2, none⟩ g)).trans (KeepsOthers.setCell _ ⟨bR, 3, none⟩ pv)) D _ hK rfl
  rw [hWf] at z1 zs zK
  have hne : bR ≠ D := fun e => by
    subst e
    have := (show Wf.heap[bR]? = _ from z1).symm.trans zK
    cases this
  refine ⟨zK, fun i v hv => ?_, ?_, ?_⟩
  · have : Blk (Wf.putObj D (.deferred none)) bR [f, s, g, pv] 34 := (heap_putObj _ _ _ _ hne).trans z1
    exact this.cell i hv
  · refine (keeps_frm_later fun k hk hk5 => ?_).trans (keeps_frm_le _ (by omega))
    rw [heap_putObj _ _ _ _ (by omega), ← hWf, Below.heap_setCell _ ⟨bR, 3, none⟩ _ _ (by show k ≠ bR; omega), Below.heap_setCell _ ⟨bR, 2, none⟩ _ _ (by show k ≠ bR; omega), Below.heap_setCell _ ⟨bR, 1, none⟩ _ _ (by show k ≠ bR; omega),
      Below.heap_setCell _ ⟨bR, 0, none⟩ _ _ (by show k ≠ bR; omega), Below.heap_setCell _ ⟨bS, 3, none⟩ _ _ (by show k ≠ bS; omega)]
  · exact zs.trans ⟨rfl, rfl, rfl, by simp [World.putObj], fun k hk => heap_putObj _ _ _ _ (by omega)⟩
set_option maxRecDepth 100000 in
set_option maxHeartbeats 2000000 in
theorem solve_any (p : ProgD) (rv gv : Value) (w : World) (hr : RowsAt w rv p.rows) (hg : IntsAt w gv p.gain) :
    Calls Try.prog 29 #[progV p rv gv] w (RetM2 (fun c v u => SolIn c v (solveF p) ∧ u = .int .i64 (errF p)) w) := by
  have hwf : ∀ f, Fence.wide.fn f = True := fun _ => rfl
  have hwd : Fence.wide.depth.isSome = false := rfl
  obtain ⟨w0, hw0, hb0, c0, c1, c2⟩ := boxedProg w p.vars rv gv
  obtain ⟨w1, hw1, hb1, hcs, -⟩ := boxed w0 #[.bool false, .int .i64 0, .int .i64 0, .slice none 0 0] 34
  have hz0 : w0.heap.size = w.heap.size + 1 := by rw [← hw0]; simp
  have bP : Blk w1 w.heap.size [.int .i64 p.vars, rv, gv] 27 := by rw [← hw1, ← hw0]; exact (Blk.new w _ _).old _
  have bR : Blk w1 (w.heap.size + 1) [.bool false, .int .i64 0, .int .i64 0, .slice none 0 0] 34 := by rw [← hw1, ← hz0]; exact Blk.new w0 _ _
  have hb01 := below2 hb0 hb1
  have hr1 := hr.below hb01
  have hg1 := hg.below hb01
  have hz1 : w1.heap.size = w.heap.size + 1 + 1 := by rw [← hw1, World.size_alloc, hz0]
  have p0 := bP.cell 0 rfl
  have p1 := bP.cell 1 rfl
  have p2 := bP.cell 2 rfl
  have r0 := bR.cell 0 rfl
  have r1 := bR.cell 1 rfl
  have r2 := bR.cell 2 rfl
  have r3 := bR.cell 3 rfl
  have HE : Hid (errF p = if validB p then 0 else 330) := hide rfl
  have HZ := hide hz1
  have HW1 := hide hw1
  have HW0 := hide hw0
  clear hw0 hw1 hz0 hz1 hcs c0 c1 c2 hb0 hb1
  refine (callsIn_wide (n := 10)).1 ?_
  refine callsIn_of_wp_marks Try.func29 rfl trivial (wpIn_wide.2 ?_) rfl
  simp only [Try.ntmps29, List.size_toArray, List.length_cons, List.length_nil, Nat.reduceAdd, Nat.reduceSub, Array.replicate_succ, Array.replicate_zero, List.push_toArray, List.append_toArray, List.nil_append, List.cons_append]
  cases hV : validB p
  · go_wp2_with fail
    rw [HW0.out, HW1.out]
    refine (valid_any p _ _ _ hr1 hg1).mono ?_
    rw [hV]
    rintro e W1 ⟨rfl, hb2⟩
    have bR1 := bR.later hb2
    have t0 := bR1.cell 0 rfl
    have t1 := bR1.cell 1 rfl
    have t2 := bR1.cell 2 rfl
    have t3 := bR1.cell 3 rfl
    have f0 := bR1.frozen 0
    have f1 := bR1.frozen 1
    have f2 := bR1.frozen 2
    have f3 := bR1.frozen 3
    have hbb := below2 hb01 hb2
    go_wp2_with fail
    obtain ⟨z1, z2, -⟩ := set4 bR1 (.bool false) (.int .i64 0) (.int .i64 0) (.slice none 0 0)
    have z3 := z2 _ _ hbb (by omega)
    generalize World.setCell (World.setCell _ _ _) ⟨w.heap.size + 1, 3, none⟩ _ = Wf at z1 z3 ⊢
    have y0 := z1.cell 0 rfl
    have y1 := z1.cell 1 rfl
    have y2 := z1.cell 2 rfl
    have y3 := z1.cell 3 rfl
    refine ⟨.tuple #[.agg #[.bool false, .int .i64 0, .int .i64 0, .slice none 0 0], .int .i64 330], by simp [results, Try.results29, go_sem, y0, y1, y2, y3], ?_⟩
    have HV : solveF p = ⟨false, 0, 0, []⟩ := by unfold solveF; rw [if_neg (by rw [hV]; simp)]
    exact ⟨_, _, rfl, ⟨⟨_, by rw [HV], by rw [HV]; exact StepsIn.nil _⟩, by rw [HE.out, hV]; rfl⟩, z3⟩
  · go_wp2_with fail
    rw [HW0.out, HW1.out]
    refine (valid_any p _ _ _ hr1 hg1).mono ?_
    rw [hV]
    rintro e W1 ⟨rfl, hb2⟩
    have bP1 := bP.later hb2
    have bR1 := bR.later hb2
    have q0 := bP1.cell 0 rfl
    have q1 := bP1.cell 1 rfl
    have q2 := bP1.cell 2 rfl
    have q0l : w.heap.size < W1.heap.size := bP1.lt
    have q1l : w.heap.size + 1 < W1.heap.size := bR1.lt
    go_wp2_with fail
    refine (choices_any p rv gv _).mono ?_
    rintro e W3 ⟨rfl, hw3⟩
    rw [World.size_alloc]
    have bS : Blk W3 W1.heap.size (solCells best0) 34 := by rw [← hw3]; exact (Blk.new W1 _ _).old _
    have bQ : Blk W3 (W1.heap.size + 1) [.int .i64 p.vars, rv, gv] 27 := by
      rw [← hw3]
      have := Blk.new (W1.alloc (.cells #[.bool false, .int .i64 0, .int .i64 0, .slice none 0 0] 34)) [.int .i64 p.vars, rv, gv] 27
      simpa using this
    have hb3 : Below W1.heap.size W1 W3 := by rw [← hw3]; exact ((Below.refl _ _).alloc (Nat.le_refl _) _).alloc (by simp) _
    have hz3 : W3.heap.size = W1.heap.size + 1 + 1 := by rw [← hw3]; simp
    have bP3 := bP1.later hb3
    have bR3 := bR1.later hb3
    have hbw3 := below2 hb01 (below2 hb2 hb3)
    have HZ3 := hide hz3
    clear hw3 hz3 p0 p1 p2 r0 r1 r2 r3 q0 q1 q2
    go_wp2_with fail
    have C := hide (choices_stops p rv 9 (W1.heap.size + 1) W1.heap.size w W3 hV hr hbw3 (by omega) (by omega) (bQ.cell 0 rfl) (bQ.cell 1 rfl))
    have hN := pow_bd (n := p.vars.toNat) (by obtain ⟨v0, v12, -⟩ := valid_parts hV; omega)
    refine wpIn_wide.1 (wpIn_rangeFunc_ownG (F := Fence.wide) (n := 10) rfl (by omega) (gf := 72) (lb := #[.pointer (some ⟨W1.heap.size + 1, 0, none⟩)]) rfl trivial (Go.Proofs.enters_of Try.func72 (by kernel_rfl) rfl)
      C.out (fun h k => h.trans k) (fun W l o o' hl _ _ _ => KeptBut.putObj W l o' hl) (Below.refl _ _) (fun _ => rfl)
      (fun pre W => Blk W W1.heap.size (solCells (bestUp p.gain pre)) 34 ∧ Blk W w.heap.size [.int .i64 p.vars, rv, gv] 27 ∧ Blk W (w.heap.size + 1) [.bool false, .int .i64 0, .int .i64 0, .slice none 0 0] 34 ∧ Below w.heap.size w W ∧ W3.heap.size ≤ W.heap.size)
      (fun _ _ _ => False)
      (OwnFrom.and (Own.from (Blk.own W1.heap.size (fun pre => solCells (bestUp p.gain pre)) _) _) (OwnFrom.and (Own.from (Blk.own w.heap.size (fun _ => [.int .i64 p.vars, rv, gv]) _) _) (OwnFrom.and (Own.from (Blk.own (w.heap.size + 1) (fun _ => [.bool false, .int .i64 0, .int .i64 0, .slice none 0 0]) _) _) (OwnFrom.and (ownFrom_below (Nat.le_refl _) hbw3.size) (own_size _ _)))))
      (fun _ _ _ _ _ hs _ _ => hs)
      ⟨bS, bP3, bR3, hbw3, Nat.le_refl _⟩
      (fun x : Nat => { tmps := #[progV p rv gv, .pointer (some ⟨w.heap.size, 0, none⟩), .pointer (some ⟨w.heap.size + 1, 0, none⟩), .int .i64 0, .pointer (some ⟨W1.heap.size, 0, none⟩), .int .i64 (x : Nat), undef, undef, .agg #[.int .i64 p.vars, rv, gv], .bool true, .bool false, undef, .agg #[.int .i64 p.vars, rv, gv], .func (.func 72) #[] #[.pointer (some ⟨W1.heap.size + 1, 0, none⟩)], .int .i64 (x : Nat), undef, undef, undef, undef, undef, undef, undef, undef, undef, undef, undef, undef, undef, undef, undef, undef, undef, undef, undef, undef, undef, undef, undef, undef, undef, undef, undef, undef, undef, undef, undef, undef, undef, undef, undef, undef], defers := [] }) ?assign ?body ?done ?stop)
    case assign =>
      intro l x W K hK
      gi_wp2
      exact hK
    case body =>
      rintro l pre x W ⟨hS, hP, hR, hB, hz⟩ hlt
      have s2 := hP.cell 2 rfl
      obtain ⟨v0, v12, -, -, hgl, hgc⟩ := valid_parts hV
      have HGL : Hid (p.gain.length ≤ 13) := by show _ ≤ _; omega
      have HSN : Hid (bestUp p.gain (pre ++ [x]) = bestStep p.gain (bestUp p.gain pre) x) := hide (bestUp_snoc _ _ _)
      have hgW := hg.below hB
      have HBS : Hid (∀ b : BestD, bestStep p.gain b x = if b.found && decide (chosenF p.gain x ≤ b.gain) then b else ⟨true, x, chosenF p.gain x⟩) := hide fun _ => rfl
      have HGC := hide hgc
      clear hgl hgc
      generalize hbu : bestUp p.gain pre = b at hS HSN
      generalize hcg : chosenF p.gain x = cg at HBS
      have HCG := hide hcg
      clear hbu hcg
      obtain ⟨bf, bs, bg⟩ := b
      have hKB := hide (fun (W' : World) (hb : Below W.heap.size W W') => keeps_below hb)
      cases bf
      · gi_wp2_with (gi_at_call 50; refine (CallsIn.inRound l (callsIn_wide.2 (chosen_any p.gain x _ _ hgW HGL.out HGC.out))).mono ?_; rw [HCG.out]; rintro e W' ⟨rfl, hb⟩; have hS' := hS.later hb; have t0 := hS'.cell 0 rfl; have t1 := hS'.cell 1 rfl; have t2 := hS'.cell 2 rfl; have t3 := hS'.cell 3 rfl; have f0 := hS'.frozen 0; have f1 := hS'.frozen 1; have f2 := hS'.frozen 2; have f3 := hS'.frozen 3)
        obtain ⟨g1, g2, -⟩ := set4 hS' (.bool true) (.int .i64 x) (.int .i64 cg) (.slice none 0 0)
        have e1 : bestUp p.gain (pre ++ [x]) = ⟨true, x, cg⟩ := by rw [HSN.out, HBS.out]; rfl
        refine ⟨((((((keeps_below hb).trans (KeepsOthers.setCell _ _ _)).trans (KeepsOthers.setCell _ _ _)).trans (KeepsOthers.setCell _ _ _)).trans (KeepsOthers.setCell _ _ _)).from _), ?_, ?_, (hP.later hb).other4 (by omega) _ _ _ _, (hR.later hb).other4 (by omega) _ _ _ _, g2 _ _ (below2' hB hb) (by omega), by simp only [size_set]; exact Nat.le_trans hz hb.size⟩
        · exact ((((KeptBut.of_below (hb.mono hz)).trans (KeptBut.setCell _ _ _)).trans (KeptBut.setCell _ _ _)).trans (KeptBut.setCell _ _ _)).trans (KeptBut.setCell _ _ _)
        · rw [e1]; exact g1
      · by_cases hcg : bg < cg
        · gi_wp2_with (gi_at_call 50; refine (CallsIn.inRound l (callsIn_wide.2 (chosen_any p.gain x _ _ hgW HGL.out HGC.out))).mono ?_; rw [HCG.out]; rintro e W' ⟨rfl, hb⟩; have hS' := hS.later hb; have t0 := hS'.cell 0 rfl; have t1 := hS'.cell 1 rfl; have t2 := hS'.cell 2 rfl; have t3 := hS'.cell 3 rfl; have f0 := hS'.frozen 0; have f1 := hS'.frozen 1; have f2 := hS'.frozen 2; have f3 := hS'.frozen 3)
          obtain ⟨g1, g2, -⟩ := set4 hS' (.bool true) (.int .i64 x) (.int .i64 cg) (.slice none 0 0)
          have e1 : bestUp p.gain (pre ++ [x]) = ⟨true, x, cg⟩ := by rw [HSN.out, HBS.out, if_neg (by simp; omega)]
          refine ⟨((((((keeps_below hb).trans (KeepsOthers.setCell _ _ _)).trans (KeepsOthers.setCell _ _ _)).trans (KeepsOthers.setCell _ _ _)).trans (KeepsOthers.setCell _ _ _)).from _), ?_, ?_, (hP.later hb).other4 (by omega) _ _ _ _, (hR.later hb).other4 (by omega) _ _ _ _, g2 _ _ (below2' hB hb) (by omega), by simp only [size_set]; exact Nat.le_trans hz hb.size⟩
          · exact ((((KeptBut.of_below (hb.mono hz)).trans (KeptBut.setCell _ _ _)).trans (KeptBut.setCell _ _ _)).trans (KeptBut.setCell _ _ _)).trans (KeptBut.setCell _ _ _)
          · rw [e1]; exact g1
        · gi_wp2_with (gi_at_call 50; refine (CallsIn.inRound l (callsIn_wide.2 (chosen_any p.gain x _ _ hgW HGL.out HGC.out))).mono ?_; rw [HCG.out]; rintro e W' ⟨rfl, hb⟩; have hS' := hS.later hb; have t0 := hS'.cell 0 rfl; have t2 := hS'.cell 2 rfl)
          have e1 : bestUp p.gain (pre ++ [x]) = ⟨true, bs, bg⟩ := by rw [HSN.out, HBS.out, if_pos (by simp; omega)]
          exact ⟨(keeps_below hb).from _, KeptBut.of_below (hb.mono hz), by rw [e1]; exact hS', hP.later hb, hR.later hb, below2' hB hb, by have := hb.size; omega⟩
    case done =>
      rintro D ys W hD rfl ⟨hS, hP, hR, hB, hz⟩ hK
      have HV : Hid (solveF p = ⟨(bestF p).found, (bestF p).set, (bestF p).gain, growF (rowsF p) p.vars.toNat 0 0 0⟩) := hide (by unfold solveF; rw [if_pos hV])
      have HRF : Hid (rowsF p = if (bestF p).found then p.rows ++ [goalF p.gain (bestF p).gain] else p.rows) := hide rfl
      have hS : Blk W W1.heap.size (solCells (bestF p)) 34 := hS
      have HREF := hide (refuted p hV)
      generalize hb : bestF p = b at hS HV HRF
      have HBF := hide hb
      clear hb
      obtain ⟨bf, bs, bg⟩ := b
      have s0 := hS.cell 0 rfl
      have s1 := hS.cell 1 rfl
      have s2 := hS.cell 2 rfl
      have s3 := hS.cell 3 rfl
      have y0 := hP.cell 0 rfl
      have y1 := hP.cell 1 rfl
      have y2 := hP.cell 2 rfl
      cases bf
      · have hRF : rowsF p = p.rows := by rw [HRF.out]; rfl
        have hPR := proof_any p.rows p.vars.toNat (by obtain ⟨v0, v12, -⟩ := valid_parts hV; omega) (fun r hr => by obtain ⟨-, -, -, hrs, -⟩ := valid_parts hV; have := hrs r hr; exact ⟨by omega, this.2.1⟩) (by have := HREF.out; rw [hRF] at this; exact this) rv W (hr.below hB)
        have HPR := hide hPR
        have HRF' := hide hRF
        clear hPR hRF
        go_wp2_with fail
        refine HPR.out.mono ?_
        rintro e W5 ⟨pv, rfl, hpf, hb5⟩
        obtain ⟨pa, pc, rfl, -, -, -⟩ := id hpf
        have hS5 := hS.later hb5
        have hR5 := hR.later hb5
        have hK5 : W5.heap[D]? = some (.deferred (some [])) := (hb5.block D (Array.getElem?_eq_some_iff.1 hK).1).trans hK
        have t0 := hS5.cell 0 rfl
        have t1 := hS5.cell 1 rfl
        have t2 := hS5.cell 2 rfl
        have t3 := hS5.cell 3 rfl
        have f3 := hS5.frozen 3
        have u0 := hR5.cell 0 rfl
        have u1 := hR5.cell 1 rfl
        have u2 := hR5.cell 2 rfl
        have u3 := hR5.cell 3 rfl
        have h0 := hR5.frozen 0
        have h1 := hR5.frozen 1
        have h2 := hR5.frozen 2
        have h3 := hR5.frozen 3
        clear s0 s1 s2 s3 y0 y1 y2
        go_wp2_with fail
        generalize hwf : World.setCell (World.setCell (World.setCell (World.setCell (World.setCell W5 _ _) _ _) _ _) _ _) _ _ = Wf
        obtain ⟨z1, zc, z6, z7⟩ := solve_tail w W W5 W1.heap.size (w.heap.size + 1) D (.slice pa (growF p.rows p.vars.toNat 0 0 0).length pc) (.bool false) (.int .i64 bs) (.int .i64 bg) hR5 hK5 (below2 hB hb5) (by omega) (by omega) (by omega) (by have := hS.lt; omega) (by have := hR.lt; omega) ((Array.getElem?_eq_some_iff.1 hK).1) (by have := hbw3.size; omega) Wf hwf
        have z2 := zc 0 _ rfl
        have z3 := zc 1 _ rfl
        have z4 := zc 2 _ rfl
        have z5 := zc 3 _ rfl
        refine ⟨by simp, .inl ⟨_, _, rfl, run_takeDeferred z1, ?_⟩⟩
        refine ⟨.tuple #[.agg #[.bool false, .int .i64 bs, .int .i64 bg, (.slice pa (growF p.rows p.vars.toNat 0 0 0).length pc)], .int .i64 0], by simp [results, Try.results29, go_sem, z2, z3, z4, z5], ?_⟩
        exact ⟨_, _, rfl, ⟨⟨_, by rw [HV.out], by rw [HV.out, HRF'.out]; exact hpf.keeps z6⟩, by rw [HE.out, hV]; rfl⟩, z7⟩
      · obtain ⟨ra, rc, rfl, hrl, hrm, -⟩ := id hr
        obtain ⟨Lr, hLr1, hLr2, hLr3, hLr4, hLr5⟩ := rows_list (RowsAt.to (hr.below hB))
        obtain ⟨v0, v12, hfew, hrs, hgl, hgc⟩ := valid_parts hV
        have hgW := hg.below hB
        have hbg : -100000000000 ≤ bg ∧ bg ≤ 100000000000 := by
          obtain ⟨-, b2⟩ := bestUp_spec p.gain _ (goodF p) rfl
          have e : bestUp p.gain (goodF p) = ⟨true, bs, bg⟩ := HBF.out
          rw [e] at b2
          have h2 := (b2 rfl).2.1
          have h3 := chosenF_bound p.gain bs hgc
          have h4 : bg = chosenF p.gain bs := h2
          omega
        obtain ⟨i0, hi, hz0, hz1, hz2⟩ := info_parts infoRow
        have hRF : rowsF p = p.rows ++ [goalF p.gain bg] := by rw [HRF.out]; rfl
        have HRF' := hide hRF
        have HGL : Hid (p.gain.length ≤ 13) := by show _ ≤ _; omega
        have HGC := hide hgc
        have HRS := hide hrs
        have HGL2 := hide hgl
        have H1 := hide hLr1
        have H2 := hide hLr2
        have H3 := hide hLr3
        have H4 := hide hLr4
        have H5 := hide hLr5
        have HI := hide (And.intro hi (And.intro hz0 (And.intro hz1 hz2)))
        clear hRF hgc hrs hgl hLr1 hLr2 hLr3 hLr4 hLr5 hi hz0 hz1 hz2
        have hm1 : (p.rows.length : Int) ≤ 9223372036854775807 := by omega
        go_wp2_with fail
        go_region_held3 (fun w' => w'.cell? ⟨w.heap.size, 0, none⟩ = some (.int .i64 p.vars) ∧ w'.cell? ⟨w.heap.size, 1, none⟩ = some (.slice ra p.rows.length rc) ∧ w'.cell? ⟨w.heap.size, 2, none⟩ = some gv ∧ w'.cell? ⟨W1.heap.size, 2, none⟩ = some (.int .i64 bg))
          (first | go_keep | (exact ⟨keep hb9 y0, keep hb9 y1, keep hb9 y2, keep hb9 s2⟩) | (exact ⟨keep hb7 y0, keep hb7 y1, keep hb7 y2, keep hb7 s2⟩))
          (first | (go_at_call 51; refine (goal_any p _ _ bg _ (hgW.below (Below.refl _ _).drew) HGL.out HGC.out (by omega) (by omega)).mono ?_; rintro e W6 ⟨gvv, rfl, ⟨cvg, rfl, hcvg⟩, hb6⟩; obtain ⟨ga, gn, rfl, -, -, -⟩ := id hcvg; have hb7 : Below W.heap.size W W6 := below2 (Below.refl _ W).drew hb6) | (refine step_append_grows rfl _ _ 24 rfl 67 i0 _ 6 64 Try.underlying24 HI.out.1 HI.out.2.1 HI.out.2.2.1 HI.out.2.2.2 rfl (by decide) ra p.rows.length p.rows.length Lr.flatten rfl (fun e => ⟨by rw [H5.out e]; rfl, by rw [H5.out e]; rfl⟩) (by rw [flat_len H2.out, H1.out]) (fun b e j u hj => keep (below2 hb7 (bal W6 _)) (H4.out b e j u hj)) ⟨W6.heap.size, 0, none⟩ 1 1 (rowCells (goalF p.gain bg) (.slice ga (goalF p.gain bg).coef.length gn)) rfl rfl (news_at W6 _ _) (by intro u hu; simp [rowCells] at hu; rcases hu with rfl | rfl | rfl | rfl | rfl | rfl <;> rfl) (by omega) (by unfold maxLen; omega) (by omega) ?_; intro v' W8 hown hgrow; obtain ⟨vg, vn, rfl⟩ := ownsRow_succ hown; have hb9 := below2 hb7 (below2 (bal W6 _) (below_of_grown hgrow))))
        go_wp2_with fail
        have hO8 : OwnR W8 (W6.alloc (.cells (rowCells (goalF p.gain bg) (.slice ga (goalF p.gain bg).coef.length gn)).toArray 67)).heap.size 67 6 (.slice (some ⟨vg, 0, none⟩) (p.rows.length + 1) vn) (Lr ++ [rowCells (goalF p.gain bg) (.slice ga (goalF p.gain bg).coef.length gn)]) := by
          refine ⟨?_, fun r hr => ?_⟩
          · rw [List.length_append, List.flatten_append, H1.out]
            simpa using hown
          · rcases List.mem_append.1 hr with h1 | h1
            · exact H2.out r h1
            · simp at h1; rw [h1]; rfl
        have hR8 : RowsAt W8 (.slice (some ⟨vg, 0, none⟩) (p.rows.length + 1) vn) (p.rows ++ [goalF p.gain bg]) := by
          refine hO8.rows (by simp [H1.out]) fun i hi => ?_
          rcases Nat.lt_or_ge i p.rows.length with h1 | h1
          · obtain ⟨cv, e, hc⟩ := H3.out i h1
            refine ⟨cv, ?_, ?_⟩
            · rw [getD_app_left _ _ _ _ (by rw [H1.out]; exact h1), getD_app_left _ _ _ _ h1]; exact e
            · rw [getD_app_left _ _ _ _ h1]; exact hc.keeps (keeps_of_below hb9)
          · have hi' : i = p.rows.length := by simp at hi; omega
            subst hi'
            refine ⟨.slice ga (goalF p.gain bg).coef.length gn, ?_, ?_⟩
            · rw [getD_app_right _ _ _ _ (by rw [H1.out]; exact Nat.le_refl _), getD_app_right _ _ _ _ (Nat.le_refl _), H1.out]; simp
            · rw [getD_app_right _ _ _ _ (Nat.le_refl _)]
              simp only [Nat.sub_self, List.getD_cons_zero]
              exact (hcvg.keeps (keeps_frm _ _)).keeps (keeps_of_below (below2 (bal W6 _) (below_of_grown hgrow)))
        have hPR := proof_any (p.rows ++ [goalF p.gain bg]) p.vars.toNat (by omega) (fun r hr => by
          rcases List.mem_append.1 hr with h1 | h1
          · have := HRS.out r h1; exact ⟨by omega, this.2.1⟩
          · simp at h1; subst h1
            have hgl := HGL2.out
            exact ⟨by simp [goalF]; omega, coefsB_neg HGC.out⟩) (by have := HREF.out; rw [HRF'.out] at this; exact this) _ W8 hR8
        refine hPR.mono ?_
        rintro e W5 ⟨pv, rfl, hpf0, hb50⟩
        have hb5 := below2 hb9 hb50
        have hpf := hpf0.keeps (keeps_frm_le W5 hb9.size)
        obtain ⟨pa, pc, rfl, -, -, -⟩ := id hpf
        clear hPR hO8 hR8 hown hgrow hb9
        have hS5 := hS.later hb5
        have hR5 := hR.later hb5
        have hK5 : W5.heap[D]? = some (.deferred (some [])) := (hb5.block D (Array.getElem?_eq_some_iff.1 hK).1).trans hK
        have t0 := hS5.cell 0 rfl
        have t1 := hS5.cell 1 rfl
        have t2 := hS5.cell 2 rfl
        have t3 := hS5.cell 3 rfl
        have f3 := hS5.frozen 3
        have u0 := hR5.cell 0 rfl
        have u1 := hR5.cell 1 rfl
        have u2 := hR5.cell 2 rfl
        have u3 := hR5.cell 3 rfl
        have h0 := hR5.frozen 0
        have h1 := hR5.frozen 1
        have h2 := hR5.frozen 2
        have h3 := hR5.frozen 3
        clear s0 s1 s2 s3 y0 y1 y2
        go_wp2_with fail
        generalize hwf : World.setCell (World.setCell (World.setCell (World.setCell (World.setCell W5 _ _) _ _) _ _) _ _) _ _ = Wf
        obtain ⟨z1, zc, z6, z7⟩ := solve_tail w W W5 W1.heap.size (w.heap.size + 1) D (.slice pa (growF (p.rows ++ [goalF p.gain bg]) p.vars.toNat 0 0 0).length pc) (.bool true) (.int .i64 bs) (.int .i64 bg) hR5 hK5 (below2 hB hb5) (by omega) (by omega) (by omega) (by have := hS.lt; omega) (by have := hR.lt; omega) ((Array.getElem?_eq_some_iff.1 hK).1) (by have := hbw3.size; omega) Wf hwf
        have z2 := zc 0 _ rfl
        have z3 := zc 1 _ rfl
        have z4 := zc 2 _ rfl
        have z5 := zc 3 _ rfl
        refine ⟨by simp, .inl ⟨_, _, rfl, run_takeDeferred z1, ?_⟩⟩
        refine ⟨.tuple #[.agg #[.bool true, .int .i64 bs, .int .i64 bg, (.slice pa (growF (p.rows ++ [goalF p.gain bg]) p.vars.toNat 0 0 0).length pc)], .int .i64 0], by simp [results, Try.results29, go_sem, z2, z3, z4, z5], ?_⟩
        exact ⟨_, _, rfl, ⟨⟨_, by rw [HV.out], by rw [HV.out, HRF'.out]; exact hpf.keeps z6⟩, by rw [HE.out, hV]; rfl⟩, z7⟩
    case stop =>
      rintro D c pre W _ _ h _
      exact h.elim
end Go.Proofs.Ytppfdjjhloaopaa
