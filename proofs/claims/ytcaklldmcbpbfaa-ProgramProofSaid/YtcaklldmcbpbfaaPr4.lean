/- Walks of Refutes of the reference at a step that parts, and whole. Conditions: how the arguments lie in memory; sizes; that the rows' numbers are bounded. -/
import Derived.Test.YtcaklldmcbpbfaaPr3
import Derived.Test.YtcaklldmcbpbfaaPw13
namespace Go.Proofs.Ytcaklldmcbpbfaa
open Go.RowKit

theorem OwnI.stored {w : World} {B g n c : Nat} {l : List Int} (h : OwnI w B (.slice (some ⟨g, 0, none⟩) n c) l) (j : Nat) (x : Int) : OwnI (w.setCell ⟨g, j, none⟩ (.int .i64 x)) B (.slice (some ⟨g, 0, none⟩) n c) (l.set j x) := by
  have hn : n = l.length := by obtain ⟨a, c', e⟩ := h.form; cases e; rfl
  subst hn
  have h1 := World.ownsRow.stored h j (.int .i64 x)
  unfold OwnI
  rw [List.map_set, List.length_set]; exact h1.1
theorem OwnI.cellAt {w : World} {B g n c : Nat} {l : List Int} (h : OwnI w B (.slice (some ⟨g, 0, none⟩) n c) l) {j : Nat} (hj : j < l.length) : w.cell? ⟨g, j, none⟩ = some (.int .i64 (l.getD j 0)) := by
  have hn : n = l.length := by obtain ⟨a, c', e⟩ := h.form; cases e; rfl
  subst hn
  have := World.ownsRow.cellAt h j (by omega)
  rw [this, List.getElem?_map, List.getD_eq_getElem?_getD, List.getElem?_eq_getElem hj]; rfl
theorem OwnI.frozenAt {w : World} {B g n c : Nat} {l : List Int} (h : OwnI w B (.slice (some ⟨g, 0, none⟩) n c) l) (j : Nat) : w.frozen? ⟨g, j, none⟩ = false := by
  have hn : n = l.length := by obtain ⟨a, c', e⟩ := h.form; cases e; rfl
  subst hn
  exact World.ownsRow.frozenAt h j
theorem OwnI.blockB {w : World} {B g n c : Nat} {l : List Int} (h : OwnI w B (.slice (some ⟨g, 0, none⟩) n c) l) : B ≤ g := by
  rcases h.2 with ⟨e, -⟩ | ⟨g', cap, cur, e1, e2, -⟩
  · cases e
  · cases e1; exact e2
theorem OwnI.someB {w : World} {B : Nat} {v : Value} {l : List Int} (h : OwnI w B v l) (hl : 0 < l.length) : ∃ g c, v = .slice (some ⟨g, 0, none⟩) l.length c := by
  rcases h.2 with ⟨-, e⟩ | ⟨g', cap, cur, e1, e2, -⟩
  · omega
  · exact ⟨g', cap, e1⟩
/-- append([]int{}, l..): a slice of one's own -/
theorem copy_int {w : World} {ops : Array Oper} {rest : List Oper} {o : Oper} {a : Act} {Q : Exit → Act → World → Prop} (hgd : o.guard = none) (s x : Operand)
    (ho : o.op = .call { callee := .builtin .append, args := #[s, x], argTypes := #[24, 24] }) (ad : Addr) (n : Nat) (l : List Int) (hv : IntsAt w (.slice (some ad) l.length n) l)
    (nb : Nat) (hnb : nb = w.heap.size) (hs : a.eval s = .slice (some ⟨nb, 0, none⟩) 0 0) (hx : a.eval x = .slice (some ad) l.length n) (hlen : l.length < 1000000)
    (h : ∀ v' w', OwnI w' w.heap.size v' l → Below w.heap.size w w' → w.heap.size < w'.heap.size → wpList Try.prog ops Q rest (a.put o.dst v') w') :
    wpList Try.prog ops Q (o :: rest) a (w.alloc (.cells #[] 3)) := by
  subst hnb
  obtain ⟨i0, hi, hz0, hz1, hz2⟩ := info_parts infoInt
  obtain ⟨-, hnews⟩ := ints_news hv
  have hone : ∀ u ∈ l.map (Value.int .i64), u.oneCell' = true := fun u hu => by obtain ⟨x, -, rfl⟩ := List.mem_map.1 hu; rfl
  refine wpList_append_own _ hgd s x 24 ho w.heap.size 3 i0 (.int .i64 0) 1 8 Try.underlying24 hi hz0 hz1 hz2 rfl (by decide) _ 0 [] hs (World.ownsRow_lit w #[] 0 (Nat.le_refl _) (by unfold maxLen; omega) rfl)
    ad l.length n (l.map (Value.int .i64)) hx (by simp) (fun j u hj => keep (bal w _) (hnews j u hj)) hone (by unfold maxLen; omega) (by omega) (by simp) ?_
  intro v' w' hown hg _
  refine h v' w' (by simpa [OwnI] using hown) ?_ ?_
  · exact ((Below.refl _ w).alloc (Nat.le_refl _) _).grown hg (by simp) (fun k hk => by cases hk; exact Nat.le_refl _)
  · have := hg.size; simp at this; omega
set_option maxRecDepth 100000 in
set_option maxHeartbeats 4000000 in
theorem refutes_node (rows : List RowD) (dec : List Int) (hn : dec.length ≤ 12) (rv lv dv : Value) (l : List StepD) (k : Nat) (hk : k < l.length) (w : World)
    (hR : RowsAt w rv rows) (hl : StepsIn w.cell? lv l) (hd : IntsAt w dv dec) (hv : (l.getD k st0).var ≠ -1) (f : Nat)
    (hIH : ∀ (a : Int) (dec' : List Int) (dv' : Value) (W : World), (k : Int) < a → Below w.heap.size w W → IntsAt W dv' dec' → dec'.length = dec.length →
      Calls Try.prog 34 #[rv, lv, .int .i64 a, dv'] W (Ret (.bool (refutesF rows l f a dec')) W)) :
    Calls Try.prog 34 #[rv, lv, .int .i64 k, dv] w (Ret (.bool (nodeB (l.getD k st0) k dec && refutesF rows l f (l.getD k st0).no (dec.set (l.getD k st0).var.toNat 0) && refutesF rows l f (l.getD k st0).yes (dec.set (l.getD k st0).var.toNat 1))) w) := by
  have HIH := hide hIH
  clear hIH
  obtain ⟨la, lc, rfl, hl1, hl2, hls⟩ := id hl
  obtain ⟨lb, lo, wv, e, c0, c1, c2, c3, hw⟩ := hls k hk
  cases e
  have HW := hide hw
  clear hl hls hw
  generalize l.getD k st0 = st at *
  obtain ⟨stv, stno, styes, ws⟩ := st
  obtain ⟨wa, wc, rfl, hw1, hw2, -⟩ := HW.out
  obtain ⟨da, dc, rfl, hd1, hd2, hds⟩ := id hd
  obtain ⟨ra, rc, rfl, hr1, hr2, -⟩ := id hR
  have hwl : ws.length ≤ wc := hw1
  have hkl : (k : Int) ≤ 9223372036854775807 := by omega
  have hwl : (ws.length : Int) ≤ 9223372036854775807 := by omega
  have hv' : stv ≠ -1 := hv
  have q0 : (stv == -1) = false := by simpa using hv'
  have HND : Hid (nodeB ⟨stv, stno, styes, ws⟩ k dec = (decide (0 ≤ stv) && decide (stv < dec.length) && decide (ws.length = 0) && decide ((k : Int) < stno) && decide ((k : Int) < styes) && decide (dec.getD stv.toNat 0 < 0))) := hide rfl
  have HDS := hide hds
  clear hv hv' hw1 hw2 HW hds
  change Calls _ _ _ _ (Ret (.bool (nodeB ⟨stv, stno, styes, ws⟩ k dec && refutesF rows l f stno (dec.set stv.toNat 0) && refutesF rows l f styes (dec.set stv.toNat 1))) w)
  by_cases f1 : stv < 0
  · have HN : Hid (nodeB ⟨stv, stno, styes, ws⟩ k dec = false) := hide (by rw [HND.out]; simp; omega)
    go_enter Try.func34, Try.ntmps34
    go_wp2_with fail
    go_ret
    exact ⟨ret_bool (by rw [HN.out]; rfl), bal w _⟩
  obtain ⟨V, hV⟩ : ∃ V : Nat, stv = V := ⟨stv.toNat, by omega⟩
  obtain rfl := hV
  have e1 : decide ((V : Int) < 0) = false := by simp
  by_cases f2 : dec.length ≤ V
  · have HN : Hid (nodeB ⟨V, stno, styes, ws⟩ k dec = false) := hide (by rw [HND.out]; simp; omega)
    go_enter Try.func34, Try.ntmps34
    go_wp2_with fail
    go_ret
    exact ⟨ret_bool (by rw [HN.out]; rfl), bal w _⟩
  have e2 : decide (dec.length ≤ V) = false := decide_eq_false f2
  have hVd : V < dec.length := by omega
  by_cases f3 : 0 < ws.length
  · have HN : Hid (nodeB ⟨V, stno, styes, ws⟩ k dec = false) := hide (by rw [HND.out]; simp; intro _ h; rw [h] at f3; simp at f3)
    go_enter Try.func34, Try.ntmps34
    go_wp2_with fail
    go_ret
    exact ⟨ret_bool (by rw [HN.out]; rfl), bal w _⟩
  have e3 : decide (0 < ws.length) = false := decide_eq_false f3
  by_cases f4 : stno ≤ k
  · have HN : Hid (nodeB ⟨V, stno, styes, ws⟩ k dec = false) := hide (by rw [HND.out]; simp; omega)
    go_enter Try.func34, Try.ntmps34
    go_wp2_with fail
    go_ret
    exact ⟨ret_bool (by rw [HN.out]; rfl), bal w _⟩
  have e4 : decide (stno ≤ k) = false := decide_eq_false f4
  by_cases f5 : styes ≤ k
  · have HN : Hid (nodeB ⟨V, stno, styes, ws⟩ k dec = false) := hide (by rw [HND.out]; simp; omega)
    go_enter Try.func34, Try.ntmps34
    go_wp2_with fail
    go_ret
    exact ⟨ret_bool (by rw [HN.out]; rfl), bal w _⟩
  have e5 : decide (styes ≤ k) = false := decide_eq_false f5
  obtain ⟨b, o, rfl, hcd⟩ := HDS.out V hVd
  obtain ⟨d, hdd⟩ : ∃ d, dec.getD V 0 = d := ⟨_, rfl⟩
  rw [hdd] at hcd
  have hcd1 := fun O => keep (bal w O) hcd
  have HDD : Hid (dec.getD (V : Int).toNat 0 = d) := hide (by rw [Int.toNat_natCast]; exact hdd)
  have HDD2 := hide hdd
  clear hdd
  have q1 : (ws.length == 0) = true := by simp; exact List.eq_nil_of_length_eq_zero (by omega)
  by_cases f6 : 0 ≤ d
  · have HN : Hid (nodeB ⟨V, stno, styes, ws⟩ k dec = false) := hide (by rw [HND.out, HDD.out]; simp; omega)
    go_enter Try.func34, Try.ntmps34
    go_wp2_with fail
    go_ret
    exact ⟨ret_bool (by rw [HN.out]; rfl), bal w _⟩
  have HN : Hid (nodeB ⟨V, stno, styes, ws⟩ k dec = true) := hide (by rw [HND.out, HDD.out]; simp at q1 ⊢; simp [q1]; omega)
  have hks : (k : Int) < stno := by omega
  have hky : (k : Int) < styes := by omega
  clear f1 f2 f3 f4 f5 HND
  go_enter Try.func34, Try.ntmps34
  have tok1 : True := trivial
  have hnl : dec.length < 1000000 := by omega
  have hd0 : 0 < dec.length := by omega
  have HW0 := hide (fun W (h : Below w.heap.size w W) => keep h hcd)
  have HDA := hide (fun W (h : Below w.heap.size w W) => hd.below h)
  have HST := hide (Blk.newA w _ (vs := stepV ⟨V, stno, styes, ws⟩ (.slice wa ws.length wc)) (t := 70) rfl)
  have HSB := hide (bal w (.cells (stepV ⟨V, stno, styes, ws⟩ (.slice wa ws.length wc)).toArray 70))
  clear hR hd hl1 hl2 hr1 hr2
  go_wp2_with (first
    | (at_builtin; have _t := tok1; refine copy_int rfl _ _ rfl ⟨b, o, none⟩ _ dec (HDA.out _ HSB.out) _ (by simp) rfl rfl hnl ?_; intro v1 w1 hown1 hb1 hz1; clear tok1 hcd1 c0 c1 c2 c3; have tok2 : True := trivial; obtain ⟨g1, n1, rfl⟩ := hown1.someB hd0; have hST1 := HST.out.later hb1; have x0 := hST1.cell 0 rfl; have x1 := hown1.cellAt hVd; have x2 := hown1.frozenAt V; have hbw1 := below2 HSB.out hb1; have hg1 := hown1.blockB; have hown2 := hown1.stored V 0)
    | (at_builtin; have _t := tok2; have hbW := hbw1.setCell (p := ⟨g1, V, none⟩) (show w.heap.size ≤ g1 by simp at hg1; omega) (.int .i64 0); refine copy_int rfl _ _ rfl ⟨b, o, none⟩ _ dec (HDA.out _ hbW) _ (by simp [World.setCell]) rfl rfl hnl ?_; intro v2 w2 hown3 hb2 hz2; clear tok2; obtain ⟨g2, n2, rfl⟩ := hown3.someB hd0
       have hST2 := (hST1.other (show w.heap.size ≠ g1 by simp at hg1; omega) V (.int .i64 0)).later hb2; clear x0 x1 x2; have x0 := hST2.cell 0 rfl; have x1 := hown3.cellAt hVd; have x2 := hown3.frozenAt V; have hg2 := hown3.blockB
       have hown4 := hown3.stored V 1; have hbW3 := hb2.setCell (p := ⟨g2, V, none⟩) hg2 (.int .i64 1); have hi1 := hown2.ints.below hbW3; have hi2 := hown4.ints; have hbw3 := below2 hbW hbW3
       have hgz : w.heap.size < w1.heap.size := hST1.lt
       have hST3 := hST2.other (show w.heap.size ≠ g2 by simp [World.setCell] at hg2; omega) V (.int .i64 1); have x3 := hST3.cell 1 rfl; have x4 := hST3.cell 2 rfl))
  have hc1 := HIH.out stno (dec.set V 0) _ _ hks hbw3 hi1 (by simp)
  have HS4 := hide hST3
  have HI2 := hide hi2
  clear hST1 hST2 hST3 hown1 hown2 hown3 hown4 hi1 hi2 x0 x1 x2 x3 hb1 hb2 hbw1 hbW hbW3 hz1 hz2 hg1 hg2 hgz hcd
  generalize World.setCell w2 _ _ = W3 at hc1 hbw3 HS4 HI2 x4 ⊢
  cases hb : refutesF rows l f stno (dec.set V 0)
  · have HB : Hid (refutesF rows l f stno (dec.set (V : Int).toNat 0) = false) := hide (by rw [Int.toNat_natCast]; exact hb)
    rw [hb] at hc1
    clear hb
    refine hc1.mono ?_
    rintro e w4 ⟨rfl, hb4⟩
    go_wp2_with fail
    go_ret
    exact ⟨ret_bool (by rw [HN.out, HB.out]; rfl), below2 hbw3 hb4⟩
  · have HB : Hid (refutesF rows l f stno (dec.set (V : Int).toNat 0) = true) := hide (by rw [Int.toNat_natCast]; exact hb)
    rw [hb] at hc1
    clear hb
    refine hc1.mono ?_
    rintro e w4 ⟨rfl, hb4⟩
    have x5 := (HS4.out.later hb4).cell 2 rfl
    go_wp2_with fail
    refine (HIH.out styes (dec.set V 1) _ _ hky (below2 hbw3 hb4) (HI2.out.below hb4) (by simp)).mono ?_
    rintro e w5 ⟨rfl, hb5⟩
    go_wp2_with fail
    go_ret
    exact ⟨ret_bool (by rw [HN.out, HB.out, Int.toNat_natCast]; rfl), below2 (below2 hbw3 hb4) hb5⟩
theorem refutes_any (rows : List RowD) (rv lv : Value) (l : List StepD) (hrl : rows.length ≤ 1000000) : ∀ (f : Nat) (a : Int) (dec : List Int) (dv : Value) (w : World), dec.length ≤ 12 → RowsOk rows dec.length → RowsAt w rv rows → StepsIn w.cell? lv l → IntsAt w dv dec → (0 ≤ a → (l.length : Int) ≤ a + f) →
    Calls Try.prog 34 #[rv, lv, .int .i64 a, dv] w (Ret (.bool (refutesF rows l f a dec)) w)
  | 0, a, dec, dv, w, hn, hr, hR, hl, hd, ha => refutes_out rv lv dv l a w hl (by omega)
  | f + 1, a, dec, dv, w, hn, hr, hR, hl, hd, ha => by
    simp only [refutesF]
    by_cases h : 0 ≤ a ∧ a < l.length
    · rw [if_pos h]
      obtain ⟨k, rfl⟩ : ∃ k : Nat, a = k := ⟨a.toNat, by omega⟩
      rw [Int.toNat_natCast]
      have hk : k < l.length := by omega
      by_cases hv : (l.getD k st0).var = -1
      · rw [if_pos hv]
        by_cases h2 : (l.getD k st0).no = 0 ∧ (l.getD k st0).yes = 0 ∧ 1 ≤ (l.getD k st0).wts.length ∧ (l.getD k st0).wts.length ≤ 8
        · exact refutes_leaf rows dec hn hr hrl rv lv dv l k hk w hR hl hd hv h2
        · have e : leafB rows (l.getD k st0) dec = false := by
            rw [← Bool.not_eq_true]; intro hh
            simp only [leafB, Bool.and_eq_true, decide_eq_true_eq] at hh
            exact h2 ⟨hh.1.1.1.1.1, hh.1.1.1.1.2, hh.1.1.1.2, hh.1.1.2⟩
          rw [e]; exact refutes_leaf0 rv lv dv l k hk w hl hv h2
      · rw [if_neg hv]
        refine refutes_node rows dec hn rv lv dv l k hk w hR hl hd hv f (fun a' dec' dv' W hka hb hd' hl' => ?_)
        exact refutes_any rows rv lv l hrl f a' dec' dv' W (by omega) (by rw [hl']; exact hr) (hR.below hb) (hl.keeps (keeps_of_below hb)) hd' (by omega)
    · rw [if_neg h]; exact refutes_out rv lv dv l a w hl h
end Go.Proofs.Ytcaklldmcbpbfaa
