/- Copies made by an append to an empty slice; the walk of the reference's Copy. Conditions: how the laws lie in memory; sizes. -/
import Derived.Test.YtdjldidfnddpmaaSwF
import Derived.Test.YtdjldidfnddpmaaAppS
namespace Go.Proofs.Ytdjldidfnddpmaa
open Go.RowKit
theorem lit_ints (w : World) : OwnI (w.alloc (.cells #[] 3)) w.heap.size (.slice (some ⟨w.heap.size, 0, none⟩) 0 0) [] := World.ownsRow_lit w #[] 0 (Nat.le_refl _) (by unfold maxLen; omega) rfl
/-- append([]int{}, x...) -/
theorem app_copyI {w : World} {ops : Array Oper} {rest : List Oper} {o : Oper} {a : Act} {Q : Exit → Act → World → Prop} (hgd : o.guard = none) (s x : Operand)
    (ho : o.op = .call { callee := .builtin .append, args := #[s, x], argTypes := #[49, 49] }) (hs : a.eval s = .slice (some ⟨w.heap.size, 0, none⟩) 0 0) (xv : Value) (lx : List Int)
    (hx : a.eval x = xv) (hxs : IntsAt w xv lx) (hlen : lx.length < 100000)
    (h : ∀ va vc w', IntsIn (frmY w.heap.size 3 w') (.slice va lx.length vc) lx → Below w.heap.size w w' → wpList Try.prog ops Q rest (a.put o.dst (.slice va lx.length vc)) w') :
    wpList Try.prog ops Q (o :: rest) a (w.alloc (.cells #[] 3)) := by
  refine app_intsS hgd s x ho w.heap.size _ [] hs (lit_ints w) xv lx hx (hxs.below (bal w _)) (by simp; omega) (by simp) ?_
  intro v' w' hO hE _
  rw [List.nil_append] at hO
  obtain ⟨va, vc, rfl⟩ := hO.form
  refine h va vc w' (hO.intsY (Nat.le_refl _)) ⟨hE.os, hE.tape, hE.output, by have := hE.size; simp at this; omega, fun k hk => ?_⟩
  rw [hE.block k (by simp; omega) (by intro e; have e : k = w.heap.size := Option.some.inj e; omega), Below.heap_alloc _ _ _ hk]
/-- append([]T{}, x...) -/
theorem app_copyR {w : World} {ops : Array Oper} {rest : List Oper} {o : Oper} {a : Act} {Q : Exit → Act → World → Prop} {e t : TypeId} {k by_ : Nat} {z : Value}
    (hinfo : (Try.prog.info? e).map (fun i => (i.zero, i.size, i.bytes)) = some (some z, k, by_)) (hzk : z.cells.size = k) (hk : 0 < k) (hu : Try.prog.underlying t = some (.slice e)) (hgd : o.guard = none) (s x : Operand)
    (ho : o.op = .call { callee := .builtin .append, args := #[s, x], argTypes := #[t, t] }) (hs : a.eval s = .slice (some ⟨w.heap.size, 0, none⟩) 0 0)
    {α : Type} {f : α → List Value} {d : α} (hf : ∀ x, (f x).length = k) (h1 : ∀ x, ∀ u ∈ f x, u.oneCell' = true) (xa : Option Addr) (m c : Nat) (lx : List α) (hm : m = lx.length) (hx : a.eval x = .slice xa m c) (hxs : RecIn f d k w.cell? (.slice xa m c) lx) (hlen : lx.length * by_ ≤ 140737488355328) (hlen2 : lx.length < 1000000)
    (h : ∀ va vc w', OwnR w' w.heap.size e k (.slice va m vc) (lx.map f) → Below w.heap.size w w' → wpList Try.prog ops Q rest (a.put o.dst (.slice va m vc)) w') :
    wpList Try.prog ops Q (o :: rest) a (w.alloc (.cells #[] e)) := by
  subst hm
  refine app_recsE hinfo hzk hk hu hgd s x ho w.heap.size _ [] hs (lit_recsK w e k (Nat.le_refl _)) xa lx.length c (lx.map f) (by rw [List.length_map]) hx (fun r hr => by obtain ⟨x, -, rfl⟩ := List.mem_map.1 hr; exact hf x) (fun u hu => by
    obtain ⟨r, hr, hu⟩ := List.mem_flatten.1 hu
    obtain ⟨x, -, rfl⟩ := List.mem_map.1 hr
    exact h1 x u hu) (fun b hb j u hj => keep (bal w _) (rec_news hf hk (by rw [hb] at hxs; exact hxs) j u hj)) (fun hn => by
    cases lx with
    | nil => rfl
    | cons y t => obtain ⟨b, o, e, -⟩ := hxs.cell (i := 0) (by simp); rw [hn] at e; cases e) (by rw [List.length_nil, Nat.zero_add, List.length_map]; exact hlen) (by rw [List.length_nil, Nat.zero_add, List.length_map]; exact hlen2) (by simp) ?_
  intro v' w' hO hE _
  rw [List.nil_append] at hO
  obtain ⟨va, vc, rfl⟩ := own_form hO
  rw [List.length_map] at hO ⊢
  refine h va vc w' hO ⟨hE.os, hE.tape, hE.output, by have := hE.size; simp at this; omega, fun k hk => ?_⟩
  rw [hE.block k (by simp; omega) (by intro e; have e : k = w.heap.size := Option.some.inj e; omega), Below.heap_alloc _ _ _ hk]
theorem OwnR.weaken {w : World} {B B' k : Nat} {e : TypeId} {v : Value} {L : List (List Value)} (h : OwnR w B e k v L) (hB : B' ≤ B) : OwnR w B' e k v L := by
  obtain ⟨⟨h1, h2⟩, h3⟩ := h
  refine ⟨⟨h1, h2.imp id ?_⟩, h3⟩
  rintro ⟨g, cap, cur, e1, e2, e3⟩
  exact ⟨g, cap, cur, e1, Nat.le_trans hB e2, e3⟩
theorem take_succD {α : Type} (l : List α) (d : α) {k : Nat} (h : k < l.length) : l.take (k + 1) = l.take k ++ [l.getD k d] := take_succ' l k d h
set_option maxRecDepth 100000 in
set_option maxHeartbeats 4000000 in
theorem copyr_any (c : CodeD) (cv rv fv : Value) (w : World) (h : CodeIn w.cell? cv rv fv c) (hl1 : c.clauses.length ≤ 1000) (hl2 : c.repeals.length ≤ 1000) (hl3 : c.facts.length ≤ 1000) (hl4 : ∀ x ∈ c.clauses, x.needs.length ≤ 1000 ∧ x.bars.length ≤ 1000) :
    Calls Try.prog 14 #[codeV cv rv fv] w (CodeQ c w) := by
  have HC := hide h
  have HL4 := hide hl4
  obtain ⟨⟨ca, cn, rfl, -, -, -⟩, ⟨ra, rn, rfl, -, -, -⟩, ⟨fa, fn, rfl, -, -, -⟩⟩ := id h
  clear h hl4
  go_enter Try.func14, Try.ntmps14
  go_wp2_with fail
  generalize hX1 : World.alloc w _ = X1
  have zX1 : X1.heap.size = w.heap.size + 1 := by rw [← hX1]; simp
  have bX1 : Below w.heap.size w X1 := by rw [← hX1]; exact bal w _
  have bI_1 : Blk X1 (w.heap.size) [.slice ca c.clauses.length cn, .slice ra c.repeals.length rn, .slice fa c.facts.length fn] 34 := by rw [← hX1]; exact Blk.newA w _ (by first | rfl | simp)
  generalize hX2 : World.alloc X1 _ = X2
  have zX2 : X2.heap.size = w.heap.size + 1 + 1 := by rw [← hX2]; simp [zX1]
  have bX2 : Below X1.heap.size X1 X2 := by rw [← hX2]; exact bal X1 _
  have bR_2 : Blk X2 (w.heap.size + 1) [.slice none 0 0, .slice none 0 0, .slice none 0 0] 34 := by rw [← hX2, ← zX1]; exact Blk.newA X1 _ (by first | rfl | simp)
  have bI_2 := bI_1.later bX2
  generalize hX3 : World.alloc X2 _ = X3
  have zX3 : X3.heap.size = w.heap.size + 1 + 1 + 1 := by rw [← hX3]; simp [zX2]
  have bX3 : Below X2.heap.size X2 X3 := by rw [← hX3]; exact bal X2 _
  have bC : Blk X3 (w.heap.size + 1 + 1) [.slice none 0 0, .slice none 0 0, .slice none 0 0] 34 := by rw [← hX3, ← zX2]; exact Blk.newA X2 _ (by first | rfl | simp)
  have bI := bI_2.later bX3
  have bR := bR_2.later bX3
  have Xb := below2 (below2 (bX1) bX2) bX3
  have Xz := zX3
  clear hX1 zX1 bX1 hX2 zX2 bX2 hX3 zX3 bX3 bI_1 bI_2 bR_2
  go_loopw [4] (fun i wr => ∃ (k : Nat) (ov : Value), k ≤ c.clauses.length ∧ i = .int .i64 k ∧ ClausesOwn wr w.heap.size (w.heap.size + 1 + 1 + 1) ov (c.clauses.take k) ∧ Blk wr (w.heap.size + 1 + 1) [ov, .slice none 0 0, .slice none 0 0] 34 ∧ Blk wr w.heap.size [.slice ca c.clauses.length cn, .slice ra c.repeals.length rn, .slice fa c.facts.length fn] 34 ∧ Blk wr (w.heap.size + 1) [.slice none 0 0, .slice none 0 0, .slice none 0 0] 34 ∧ Below w.heap.size w wr ∧ w.heap.size + 1 + 1 + 1 ≤ wr.heap.size) (fun i _ => c.clauses.length - (intOf i).toNat)
  case atStart => exact ⟨0, _, by omega, rfl, ClausesOwn.nil _ _ _, bC, bI, bR, Xb, by omega⟩
  case round =>
    obtain ⟨k, ov, hk, rfl, hown, hbC, hbI, hbR, hbr, hsz⟩ := hrel
    have i0 := hbI.cell 0 rfl
    by_cases hlt : k < c.clauses.length
    · have HK := hide hlt
      obtain ⟨a', n', e', -, -, hcc⟩ := (HC.out.below hbr).cl
      cases e'
      obtain ⟨b, o, nv, bv, rfl, k0, k1, k2, k3, k4, k5, hn, hb⟩ := hcc k hlt
      have hx4 := HL4.out _ (getD_mem c.clauses k (d := clause0) hlt)
      have HTK := hide (take_succD c.clauses clause0 hlt)
      have hltI : (k : Int) < c.clauses.length := by omega
      generalize c.clauses.getD k clause0 = y at k0 k1 k2 k3 k4 k5 hn hb hx4 HTK
      obtain ⟨na, nn, rfl, -⟩ := id hn
      obtain ⟨ba, bn, rfl, -⟩ := id hb
      have HN := hide hn
      have HB := hide hb
      have HX4 := hide hx4
      clear hcc hn hb hx4
      obtain ⟨Lr, hOR, hLl, hLs⟩ := hown
      obtain ⟨oa, oc, rfl⟩ := own_form hOR
      have hln : Lr.length ≤ 1000 := by rw [hLl, List.length_take]; omega
      have HLS := hide hLs
      have HLL := hide hLl
      have HI := hide hbI
      have HR := hide hbR
      have HBR := hide hbr
      clear hLs hLl hbI hbR hbr bI bR bC Xb
      go_wp2_with (first | (at_builtin; generalize hW2 : World.setCell w2 _ _ = W2; have z2 : W2.heap.size = w2.heap.size := (by rw [← hW2]; simp [World.setCell]); have hb2' : Below wr.heap.size wr W2 := (by rw [← hW2]; exact (below2 hb1' hb2).setCell (p := ⟨wr.heap.size, 4, none⟩) (Nat.le_refl _) _); have hI1'' : IntsIn (frmY wr.heap.size 3 W2) (.slice va1 y.needs.length vc1) y.needs := (by rw [← hW2]; exact (hI1'.keeps (keeps_frmY_below hb2)).keeps (keeps_frmY_set bY3 (by decide) 4 _)); have hI2' : IntsIn (frmY wr.heap.size 3 W2) (.slice va2 y.bars.length vc2) y.bars := (by have hs1 := hb1'.size; rw [← hW2]; exact (hI2.keeps (keeps_frmY_le _ _ hs1)).keeps (keeps_frmY_set bY3 (by decide) 4 _)); clear hW2; have hOW := hOR.later' hb2'; have hsW := hb2'.size; refine app_recE infoClause rfl (by decide) Try.underlying30 rfl _ _ rfl (w.heap.size + 1 + 1 + 1) _ Lr rfl hOW (clauseC y (.slice va1 y.needs.length vc1) (.slice va2 y.bars.length vc2)) rfl clauseC_one _ rfl z2.symm (by omega) (by omega) (by omega) ?_; intro v3 w3 hO3 hE3 hob3; obtain ⟨g3', c3', rfl⟩ := own_some hO3; have hbC3 : Blk w3 (w.heap.size + 1 + 1) [.slice oa Lr.length oc, .slice none 0 0, .slice none 0 0] 34 := (hbC.later hb2').eff hE3 (fun e => hOW.neT (hbC.later hb2') (by decide) e.symm); have r0 := hbC3.cell 0 rfl; have rf := hbC3.frozen 0) | (at_builtin; generalize hW1 : World.setCell w1 _ _ = W1; have bY2 : Blk W1 wr.heap.size (clauseC y (.slice va1 y.needs.length vc1) (.slice ba y.bars.length bn)) 51 := (by rw [← hW1]; exact bY1.set 3 _); have z1 : W1.heap.size = w1.heap.size := (by rw [← hW1]; simp [World.setCell]); have hb1' : Below wr.heap.size wr W1 := (by rw [← hW1]; exact (below2 hb0 hb1).setCell (p := ⟨wr.heap.size, 3, none⟩) (Nat.le_refl _) _); have hI1' : IntsIn (frmY wr.heap.size 3 W1) (.slice va1 y.needs.length vc1) y.needs := (by rw [← hW1]; exact (hI1.keeps (keeps_frmY_le _ _ (by omega))).keeps (keeps_frmY_set bY1 (by decide) 3 _)); clear hW1; refine app_copyI rfl _ _ rfl (by rw [z1]; rfl) _ y.bars rfl (IntsAt.below hb1' HB.out) (by have := HX4.out.2; omega) ?_; intro va2 vc2 w2 hI2 hb2; have bY3 := bY2.later hb2; have f4 := bY3.frozen 4; have m0 := bY3.cell 0 rfl; have m1 := bY3.cell 1 rfl; have m2 := bY3.cell 2 rfl; have m3 := bY3.cell 3 rfl; have m4 := bY3.cell 4 rfl; have m5 := bY3.cell 5 rfl; have cc0 := (hbC.later (below2 hb1' hb2)).cell 0 rfl; have hne : w.heap.size + 1 + 1 ≠ wr.heap.size := (by omega)) | (at_builtin; generalize hW0 : World.alloc wr _ = W0; have bY : Blk W0 wr.heap.size (clauseC y (.slice na y.needs.length nn) (.slice ba y.bars.length bn)) 51 := (by rw [← hW0]; exact Blk.newA wr _ rfl); have z0 : W0.heap.size = wr.heap.size + 1 := (by rw [← hW0]; simp); have hb0 : Below wr.heap.size wr W0 := (by rw [← hW0]; exact bal wr _); clear hW0; refine app_copyI rfl _ _ rfl (by rw [z0]; rfl) _ y.needs rfl (IntsAt.below hb0 HN.out) (by have := HX4.out.1; omega) ?_; intro va1 vc1 w1 hI1 hb1; have bY1 := bY.later hb1; have f3 := bY1.frozen 3; have g0 := bY1.cell 0 rfl; have g1 := bY1.cell 1 rfl; have g2 := bY1.cell 2 rfl; have g3 := bY1.cell 3 rfl; have g4 := bY1.cell 4 rfl; have g5 := bY1.cell 5 rfl; have gg4 := fun o => keep (bal _ o) ((bY1.set 3 (.slice va1 y.needs.length vc1)).cell 4 rfl)))
      have hEE : EffE (w.heap.size + 1 + 1 + 1) 51 W2 w3 := effE_of_grown hOW ⟨hE3.os, hE3.tape, hE3.output, hE3.size, fun b hb hn => hE3.block b hb hn⟩
      have hEY : EffY (w.heap.size + 1 + 1 + 1) 51 (w.heap.size + 1 + 1) wr (w3.setCell ⟨w.heap.size + 1 + 1, 0, none⟩ (.slice (some ⟨g3', 0, none⟩) (Lr.length + 1) c3')) := ((EffY.of_below hb2').app hEE).set 0 _
      have hsw : w.heap.size ≤ wr.heap.size := by omega
      have hq1 : IntsIn (frmY w.heap.size 3 (w3.setCell ⟨w.heap.size + 1 + 1, 0, none⟩ (.slice (some ⟨g3', 0, none⟩) (Lr.length + 1) c3'))) (.slice va1 y.needs.length vc1) y.needs := ((hI1''.keeps (keeps_frmY_le _ _ hsw)).keeps (keeps_frmY_eff hEE (by decide))).keeps (keeps_frmY_set hbC3 (by decide) 0 _)
      have hq2 : IntsIn (frmY w.heap.size 3 (w3.setCell ⟨w.heap.size + 1 + 1, 0, none⟩ (.slice (some ⟨g3', 0, none⟩) (Lr.length + 1) c3'))) (.slice va2 y.bars.length vc2) y.bars := ((hI2'.keeps (keeps_frmY_le _ _ hsw)).keeps (keeps_frmY_eff hEE (by decide))).keeps (keeps_frmY_set hbC3 (by decide) 0 _)
      have hcl := clauses_app HLL.out HLS.out hEY hbC (by decide) (by decide) hq1 hq2 (OwnR.setO hO3 hbC3 (by decide) _)
      have HCL := hide hcl
      have HC3 := hide (hbC3.set 0 (.slice (some ⟨g3', 0, none⟩) (Lr.length + 1) c3'))
      have HI3 := hide (hEY.blk HI.out (show w.heap.size ≠ w.heap.size + 1 + 1 by omega) (by decide))
      have HR3 := hide (hEY.blk HR.out (show w.heap.size + 1 ≠ w.heap.size + 1 + 1 by omega) (by decide))
      have HB3 := hide (keeps_low_effY hEY (show w.heap.size ≤ w.heap.size + 1 + 1 + 1 by omega) (show w.heap.size ≤ w.heap.size + 1 + 1 by omega) HBR.out)
      have HS3 : Hid (w.heap.size + 1 + 1 + 1 ≤ _) := hide (Nat.le_trans hsz hEY.size)
      clear hEY hEE hq1 hq2 hcl
      go_roundw
      case rel => exact ⟨k + 1, _, by have := HK.out; omega, by go_num, by rw [HTK.out]; exact HCL.out, HC3.out, HI3.out, HR3.out, HB3.out, HS3.out⟩
      case measure => have := HK.out; simp [intOf]; omega
    · obtain rfl : k = c.clauses.length := by omega
      rw [List.take_length] at hown
      obtain ⟨oa, oc, rfl⟩ := hown.form
      have hre := (HC.out.below hbr).re
      have hfa := HC.out.fa
      have hi1 := fun o => keep (bal wr o) (hbI.cell 1 rfl)
      clear bI bR bC Xb
      go_wp2_with (first | (at_builtin; generalize hW1 : World.setCell w1 _ _ = W1; have z1 : W1.heap.size = w1.heap.size := (by rw [← hW1]; simp [World.setCell]); have hE1 : EffY (w.heap.size + 1 + 1 + 1) 26 (w.heap.size + 1 + 1) wr W1 := (by rw [← hW1]; exact (EffY.of_below hb1).set 1 _); have hbC2 : Blk W1 (w.heap.size + 1 + 1) [.slice oa c.clauses.length oc, .slice va1 c.repeals.length vc1, .slice none 0 0] 34 := (by rw [← hW1]; exact hbC1.set 1 _); have hO1' : OwnR W1 wr.heap.size 55 3 (.slice va1 c.repeals.length vc1) (c.repeals.map repealC) := (by rw [← hW1]; exact hO1.setO hbC1 (by decide) _); clear hW1; refine app_copyR infoFact rfl (by decide) Try.underlying32 rfl _ _ rfl (by rw [z1]; rfl) (f := factC) (d := fact0) (fun _ => rfl) (fun _ => factC_one) fa c.facts.length fn c.facts rfl rfl (hfa.below (keeps_low_effY hE1 (by omega) (by omega) hbr)) (by omega) (by omega) ?_; intro va2 vc2 w2 hO2 hb2; have hbC3 := hbC2.later hb2; have s0 := hbC3.cell 0 rfl; have s1 := hbC3.cell 1 rfl; have s2 := hbC3.cell 2 rfl; have sf2 := hbC3.frozen 2; have hbR2 := (hE1.blk hbR (show w.heap.size + 1 ≠ w.heap.size + 1 + 1 by omega) (by decide)).later hb2; have t0 := hbR2.cell 0 rfl; have t1 := hbR2.cell 1 rfl; have t2 := hbR2.cell 2 rfl; have tf0 := hbR2.frozen 0; have tf1 := hbR2.frozen 1; have tf2 := hbR2.frozen 2; have hne1 : w.heap.size + 1 ≠ w.heap.size + 1 + 1 := (by omega)) | (at_builtin; refine app_copyR infoRepeal rfl (by decide) Try.underlying31 rfl _ _ rfl rfl (f := repealC) (d := repeal0) (fun _ => rfl) (fun _ => repealC_one) ra c.repeals.length rn c.repeals rfl rfl hre (by omega) (by omega) ?_; intro va1 vc1 w1 hO1 hb1; have hbC1 := hbC.later hb1; have p1 := hbC1.cell 1 rfl; have pf1 := hbC1.frozen 1; have hbI1 := hbI.later hb1; have gi := fun o => keep (bal (w1.setCell ⟨w.heap.size + 1 + 1, 1, none⟩ (.slice va1 c.repeals.length vc1)) o) ((hbI1.other (show w.heap.size ≠ w.heap.size + 1 + 1 by omega) 1 (.slice va1 c.repeals.length vc1)).cell 2 rfl)))
      have hE2 := (hE1.then hb2).set 2 (.slice va2 c.facts.length vc2)
      have hE3 : EffY (w.heap.size + 1 + 1 + 1) 26 (w.heap.size + 1) (w2.setCell ⟨w.heap.size + 1 + 1, 2, none⟩ (.slice va2 c.facts.length vc2)) _ := (((EffY.of_below (Below.refl _ _)).set 0 (.slice oa c.clauses.length oc)).set 1 (.slice va1 c.repeals.length vc1)).set 2 (.slice va2 c.facts.length vc2)
      have hbR3 : Blk (w2.setCell ⟨w.heap.size + 1 + 1, 2, none⟩ (.slice va2 c.facts.length vc2)) (w.heap.size + 1) [.slice none 0 0, .slice none 0 0, .slice none 0 0] 34 := hbR2.other hne1 2 _
      obtain ⟨hy2, -, -⟩ := set3 hbR3 (.slice oa c.clauses.length oc) (.slice va1 c.repeals.length vc1) (.slice va2 c.facts.length vc2)
      have hcl := (hown.kept hE2 hbC (by decide) (by decide) (by decide) (by decide)).kept hE3 hbR3 (by decide) (by decide) (by decide) (by decide)
      have hrl := (((hO1'.later' hb2).setO hbC3 (by decide) (j := 2) (.slice va2 c.facts.length vc2)).kept hE3 hbR3 (by decide) (by decide)).weaken hsz
      have hfl := ((hO2.setO hbC3 (by decide) (j := 2) (.slice va2 c.facts.length vc2)).kept hE3 hbR3 (by decide) (by decide)).weaken (Nat.le_trans hsz hE1.size)
      have HCF := hide (CodeOwn.mk hcl hrl hfl)
      have HBF := hide (keeps_low_effY hE3 (show w.heap.size ≤ w.heap.size + 1 + 1 + 1 by omega) (show w.heap.size ≤ w.heap.size + 1 by omega) (keeps_low_effY hE2 (show w.heap.size ≤ w.heap.size + 1 + 1 + 1 by omega) (show w.heap.size ≤ w.heap.size + 1 + 1 by omega) hbr))
      have HSZ := hide (Nat.le_trans hsz (Nat.le_trans hE2.size hE3.size))
      clear hcl hrl hfl hE1 hE2 hE3
      generalize World.setCell (World.setCell _ _ _) ⟨w.heap.size + 1, 2, none⟩ _ = Wf at hy2 HCF HBF HSZ ⊢
      have x0 := hy2.cell 0 rfl
      have x1 := hy2.cell 1 rfl
      have x2 := hy2.cell 2 rfl
      refine bodyPost_ret (v := .agg #[.slice oa c.clauses.length oc, .slice va1 c.repeals.length vc1, .slice va2 c.facts.length vc2]) (by simp [results, Try.results14, go_sem, x0, x1, x2]) rfl ?_
      exact ⟨_, _, _, w.heap.size + 1 + 1 + 1, rfl, by omega, HSZ.out, HCF.out, HBF.out⟩
end Go.Proofs.Ytdjldidfnddpmaa
