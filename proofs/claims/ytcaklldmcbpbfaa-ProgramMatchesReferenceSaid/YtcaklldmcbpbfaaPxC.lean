/- The walk of Solve of the reference. Conditions: how the arguments lie in memory. -/
import Derived.Test.YtcaklldmcbpbfaaPxB
import Derived.Test.YtcaklldmcbpbfaaGoalA
namespace Go.Proofs.Ytcaklldmcbpbfaa
open Go.RowKit

theorem app_recs {w : World} {ops : Array Oper} {rest : List Oper} {o : Oper} {a : Act} {Q : Exit → Act → World → Prop} {e t : TypeId} {k by_ : Nat} {z : Value}
    (hinfo : (Try.prog.info? e).map (fun i => (i.zero, i.size, i.bytes)) = some (some z, k, by_)) (hzk : z.cells.size = k) (hk : 0 < k) (hu : Try.prog.underlying t = some (.slice e)) (hgd : o.guard = none) (s x : Operand)
    (ho : o.op = .call { callee := .builtin .append, args := #[s, x], argTypes := #[t, t] }) (B : Nat) (v : Value) (L : List (List Value)) (hs : a.eval s = v) (hown : OwnR w B e k v L)
    (xa : Option Addr) (m c : Nat) (Lx : List (List Value)) (hm : m = Lx.length) (hx : a.eval x = .slice xa m c) (h6 : ∀ r ∈ Lx, r.length = k) (hone : ∀ u ∈ Lx.flatten, u.oneCell' = true)
    (hcells : ∀ b, xa = some b → ∀ j u, Lx.flatten[j]? = some u → w.cell? (b.add j) = some u) (hnone : xa = none → Lx = []) (hlen : (L.length + Lx.length) * by_ ≤ 140737488355328) (hlen2 : L.length + Lx.length < 1000000) (hB : B ≤ w.heap.size)
    (h : ∀ v' w', OwnR w' B e k v' (L ++ Lx) → w.grownBy w' v.ownBlock → wpList Try.prog ops Q rest (a.put o.dst v') w') :
    wpList Try.prog ops Q (o :: rest) a w := by
  subst hm
  obtain ⟨i0, hi, hz0, hz1, hz2⟩ := info_parts hinfo
  refine wpList_plain hgd fun K hK => ?_
  unfold Oper.wp execOp
  cases xa with
  | none =>
    obtain rfl := hnone rfl
    have hrun := run_app_nil B t o.type e i0 k hu hi v L.length L.flatten hown.1 c
    have hx' : a.eval x = .slice none 0 c := hx
    simp only [ho, resolve, invoke, builtin, Sem.run_bind, Sem.run_pure, Result.andThen_ok, List.map_toArray, List.map_cons, List.map_nil, hs, hx', hrun]
    exact hK _ _ (h v w (by simpa using hown) (World.grownBy.refl w _))
  | some ad =>
    obtain ⟨v', w', hrun, h2, h3, -, h5⟩ := run_append_own_at (P := Try.prog) w B t o.type e i0 z k by_ hu hi hz0 hz1 hz2 hzk hk v L.length L.flatten hown.1
      ad Lx.length c Lx.flatten (flat_len h6) (hcells ad rfl) hone (by unfold maxLen; omega) hlen hB
    simp only [ho, resolve, invoke, builtin, Sem.run_bind, Sem.run_pure, Result.andThen_ok, List.map_toArray, List.map_cons, List.map_nil, hs, hx, hrun]
    refine hK _ _ (h v' w' ⟨by simpa using h2, fun q hq => ?_⟩ h3)
    rcases List.mem_append.1 hq with h2 | h2
    · exact hown.2 q h2
    · exact h6 q h2
theorem allF_good {p : ProgD} (h : validB p = true) : allF p = (goodF p).map fun (s : Nat) => (s : Int) := by unfold allF; rw [if_pos h]
theorem good_le {p : ProgD} (h : validB p = true) : (goodF p).length ≤ 4096 := by
  obtain ⟨v0, v12, -⟩ := valid_parts h
  have h1 := goodUp_le p.rows (2 ^ p.vars.toNat)
  have h2 : 2 ^ p.vars.toNat ≤ 2 ^ 12 := Nat.pow_le_pow_right (by omega) (by omega)
  unfold goodF; omega
theorem mapN_getD (l : List Nat) (j : Nat) : (l.map fun (s : Nat) => (s : Int)).getD j 0 = ((l.getD j 0 : Nat) : Int) := by
  rw [List.getD_eq_getElem?_getD, List.getD_eq_getElem?_getD, List.getElem?_map]
  cases l[j]? <;> simp
theorem best_bd {p : ProgD} (hV : validB p = true) : -12000000000 ≤ (bestF p).gain ∧ (bestF p).gain ≤ 12000000000 := by
  obtain ⟨v0, v12, -, -, hgl, hgc⟩ := valid_parts hV
  obtain ⟨b1, b2⟩ := bestUp_spec p.gain _ (goodF p) rfl
  cases hf : (bestF p).found
  · have := (b1 hf).2
    show _ ≤ (bestUp p.gain (goodF p)).gain ∧ (bestUp p.gain (goodF p)).gain ≤ _
    rw [this]; simp [best0]
  · obtain ⟨-, c2, -⟩ := b2 hf
    show _ ≤ (bestUp p.gain (goodF p)).gain ∧ (bestUp p.gain (goodF p)).gain ≤ _
    rw [c2]
    have := chosenF_bound p.gain (bestUp p.gain (goodF p)).set hgc
    omega
theorem rowsF_found {p : ProgD} (h : (bestF p).found = true) : rowsF p = p.rows ++ [goalF p.gain (bestF p).gain] := by unfold rowsF; rw [if_pos h]
theorem rowsF_none {p : ProgD} (h : (bestF p).found = false) : rowsF p = p.rows := by unfold rowsF; rw [if_neg (by simp [h])]
theorem rowsF_ok {p : ProgD} (hV : validB p = true) : ∀ r ∈ rowsF p, r.coef.length = p.vars.toNat ∧ coefsB r.coef = true := by
  obtain ⟨v0, -, -, hrs, hgl, hgc⟩ := valid_parts hV
  have key : ∀ r ∈ p.rows, r.coef.length = p.vars.toNat ∧ coefsB r.coef = true := fun r h => ⟨by have := hrs r h; omega, (hrs r h).2.1⟩
  intro r hr
  unfold rowsF at hr
  split at hr
  · rcases List.mem_append.1 hr with h | h
    · exact key r h
    · simp at h; subst h; exact ⟨by simp [goalF]; omega, coefsB_neg hgc⟩
  · exact key r hr
theorem best_step (g : List Int) (x : Nat) (b : BestD) : downStep g x b = if b.found && decide (chosenF g x < b.gain) then b else ⟨true, x, chosenF g x⟩ := rfl
theorem keeps_frm_set {B b : Nat} (w : World) (h : b < B) (j : Nat) (u : Value) : Keeps (frm B w) (frm B (w.setCell ⟨b, j, none⟩ u)) :=
  keeps_frm_later fun k hk _ => Below.heap_setCell w ⟨b, j, none⟩ u k (by show k ≠ b; omega)
set_option maxRecDepth 100000 in
set_option maxHeartbeats 4000000 in
theorem solver_any (p : ProgD) (rv gv : Value) (w : World) (hr : RowsAt w rv p.rows) (hg : IntsAt w gv p.gain) :
    Calls Try.prog 15 #[progV p rv gv] w (RetM2 (fun c v u => SolIn c v (solveF p) ∧ u = .int .i64 (errF p)) w) := by
  have HE : Hid (errF p = if validB p then 0 else 330) := hide rfl
  have HAL := hide (fun (W : World) (h : Below w.heap.size w W) => allr_any p rv gv W (hr.below h) (hg.below h))
  have HR0 := hr
  have HG0 := hg
  obtain ⟨ra, rc, rfl, hrl, hrm, -⟩ := id hr
  obtain ⟨ga, gc, rfl, -, hgm, -⟩ := id hg
  clear hr hg
  go_enter Try.func15, Try.ntmps15
  go_wp2_with fail
  generalize hX1 : World.alloc w _ = X1
  have zX1 : X1.heap.size = w.heap.size + 1 := by rw [← hX1]; simp
  have bX1 : Below w.heap.size w X1 := by rw [← hX1]; exact bal w _
  have bP_1 : Blk X1 (w.heap.size) [.int .i64 p.vars, .slice ra p.rows.length rc, .slice ga p.gain.length gc] 29 := by rw [← hX1]; exact Blk.newA w _ (by first | rfl | simp)
  generalize hX2 : World.alloc X1 _ = X2
  have zX2 : X2.heap.size = w.heap.size + 1 + 1 := by rw [← hX2]; simp [zX1]
  have bX2 : Below X1.heap.size X1 X2 := by rw [← hX2]; exact bal X1 _
  have bR : Blk X2 (w.heap.size + 1) [.bool false, .int .i64 0, .int .i64 0, .slice none 0 0] 37 := by rw [← hX2, ← zX1]; exact Blk.newA X1 _ (by first | rfl | simp)
  have bP := bP_1.later bX2
  have Xb := below2 (bX1) bX2
  have Xz := zX2
  clear hX1 zX1 bX1 hX2 zX2 bX2 bP_1
  refine (HAL.out _ Xb).mono ?_
  rintro e W1 ⟨lv, u, rfl, ⟨hl, rfl⟩, hb1⟩
  have hl1 : IntsAt W1 lv (allF p) := hl.keeps (keeps_frm _ _)
  have hbw1 := below2 Xb hb1
  have bP1 := bP.later hb1
  have bR1 := bR.later hb1
  clear hl bP bR
  cases hV : validB p
  · have e1 : errF p = 330 := by rw [HE.out, hV]; rfl
    rw [e1]
    obtain ⟨la, lc, rfl, -, -, -⟩ := hl1
    generalize (allF p).length = ml
    have t0 := (bR1).cell 0 rfl
    have t1 := (bR1).cell 1 rfl
    have t2 := (bR1).cell 2 rfl
    have t3 := (bR1).cell 3 rfl
    have f0 := (bR1).frozen 0
    have f1 := (bR1).frozen 1
    have f2 := (bR1).frozen 2
    have f3 := (bR1).frozen 3
    go_wp2_with fail
    obtain ⟨z1, z2, -⟩ := set4 bR1 (.bool false) (.int .i64 0) (.int .i64 0) (.slice none 0 0)
    have z3 := z2 _ _ hbw1 (by omega)
    generalize World.setCell (World.setCell _ _ _) ⟨w.heap.size + 1, 3, none⟩ _ = Wf at z1 z3 ⊢
    have y0 := z1.cell 0 rfl
    have y1 := z1.cell 1 rfl
    have y2 := z1.cell 2 rfl
    have y3 := z1.cell 3 rfl
    have HV : solveF p = ⟨false, 0, 0, []⟩ := by unfold solveF; rw [if_neg (by rw [hV]; simp)]
    refine bodyPost_ret (v := .tuple #[.agg #[.bool false, .int .i64 0, .int .i64 0, .slice none 0 0], .int .i64 330]) (by simp [results, Try.results15, go_sem, y0, y1, y2, y3]) rfl ?_
    exact ⟨_, _, rfl, ⟨⟨_, by rw [HV], by rw [HV]; exact StepsIn.nil _⟩, by rw [e1]⟩, z3⟩
  · have e1 : errF p = 0 := by rw [HE.out, hV]; rfl
    rw [e1]
    obtain ⟨v0, v12, -, hrs, hgl, hgc⟩ := valid_parts hV
    have HSV : Hid (solveF p = ⟨(bestF p).found, (bestF p).set, (bestF p).gain, growF (rowsF p) p.vars.toNat 0 0 0⟩) := hide (by unfold solveF; rw [if_pos hV])
    have HBD := hide (best_bd hV)
    have HREF := hide (refuted p hV)
    have HOK : Hid (∀ r ∈ rowsF p, r.coef.length = p.vars.toNat ∧ coefsB r.coef = true) := hide (rowsF_ok hV)
    have HGL : Hid (p.gain.length ≤ 13) := by show _ ≤ _; omega
    have HGC := hide hgc
    have HRL : Hid (p.rows.length ≤ 300) := hide (valid_parts hV).2.2.1
    have HN12 : Hid (p.vars.toNat ≤ 12) := by show _ ≤ _; omega
    have HRN := hide (rowsF_none (p := p))
    have HRY := hide (rowsF_found (p := p))
    have HBE : Hid (bestDown p.gain (goodF p) = bestF p) := hide (bestDown_eq _ _)
    have hml := good_le hV
    rw [allF_good hV] at hl1
    have HE1 := hide e1
    clear hrs hgl hgc e1
    generalize hGL : goodF p = GL at hl1 hml HBE
    obtain ⟨la, lc, rfl, hll1, hll2, hlc⟩ := hl1
    have hll : (GL.map fun (s : Nat) => (s : Int)).length = GL.length := by simp
    rw [hll] at hll1 hlc ⊢
    have HLC := hide hlc
    clear hlc hll hGL
    have q2 := bP1.cell 2 rfl
    go_wp2_with fail
    generalize hW2 : World.alloc W1 _ = W2
    have hb2 : Below W1.heap.size W1 W2 := by rw [← hW2]; exact bal W1 _
    have bS : Blk W2 W1.heap.size (solCells best0) 37 := by rw [← hW2]; exact Blk.newA W1 _ rfl
    have hz2 : W1.heap.size < W2.heap.size := bS.lt
    clear hW2 q2
    go_loopw [7] (fun i wr => ∃ k : Nat, k ≤ GL.length ∧ i = .int .i64 ((k : Int) - 1) ∧ Blk wr W1.heap.size (solCells (bestDown p.gain (GL.drop k))) 37 ∧ Below W1.heap.size W1 wr ∧ W2.heap.size ≤ wr.heap.size) (fun i _ => (intOf i + 1).toNat)
    case atStart => exact ⟨GL.length, Nat.le_refl _, by go_num, by rw [List.drop_length]; exact bS, hb2, Nat.le_refl _⟩
    case round =>
      obtain ⟨k, hk, rfl, hS, hbr, hz⟩ := hrel
      rcases k with _ | j
      · rw [List.drop_zero, HBE.out] at hS
        generalize bestF p = BB at hS HSV HBD HRN HRY
        obtain ⟨bf, bs, bg⟩ := BB
        have hbwr := below2 hbw1 hbr
        have hrr := HR0.below hbwr
        obtain ⟨Lr, hLl, hL6, hLone, hLs, -, hLt⟩ := rows_from (RowsAt.to hrr)
        have hLt2 := hLt p.rows.length
        rw [List.take_of_length_le (Nat.le_of_eq hLl)] at hLt2
        have HLl := hide hLl
        have HLs := hide hLs
        have HLt := hide hLt2
        have HL6 := hide hL6
        have HLone := hide hLone
        have hLr : Lr.length ≤ 300 := by rw [hLl]; exact HRL.out
        have hRlt := bR1.lt
        have hRne : w.heap.size + 1 ≠ W1.heap.size := Nat.ne_of_lt hRlt
        have p1 := (bP1.later hbr).cell 1 rfl
        have lP := (bP1.later hbr).lt
        clear hLl hL6 hLone hLs hLt hLt2 HBE HLC hml
        go_wp2_with (at_builtin; refine app_recs infoRow rfl (by decide) Try.underlying27 rfl _ _ rfl wr.heap.size _ [] rfl (lit_recs wr _ 6 (Nat.le_refl _)) _ _ _ Lr HLl.out.symm rfl HL6.out HLone.out (fun b hb j u hj => keep (bal wr _) (HLt.out.1 b hb j u hj)) HLt.out.2 (by simp only [List.length_nil]; omega) (by simp only [List.length_nil]; omega) (by simp) ?_; intro v3 W3 hO3 hg3; rw [List.nil_append] at hO3; have hb3 : Below wr.heap.size wr W3 := (bal wr _).trans (below_own (lit_recs wr _ 6 (Nat.le_refl _)) (by simp) hg3); obtain ⟨a3, c3, rfl⟩ := own_form hO3 HLl.out; have bS3 := hS.later hb3; have s0 := bS3.cell 0 rfl; have s2 := bS3.cell 2 rfl; have bP3 := (bP1.later hbr).later hb3; have p30 := bP3.cell 0 rfl; have p31 := bP3.cell 1 rfl; have p32 := bP3.cell 2 rfl; cases bf)
        all_goals have hbw3 := below2 hbwr hb3
        all_goals have bR3 := (bR1.later hbr).later hb3
        all_goals have hlt3 := bS3.lt
        · have rr3 : RowsAt W3 (.slice a3 p.rows.length c3) p.rows := OwnR.rows hO3 HLl.out (fun i hi => let ⟨cv, e, hc⟩ := HLs.out i hi; ⟨cv, e, IntsAt.below hb3 hc⟩)
          have hbw4 := hbw3
          have bR4 := bR3
          clear p1 lP p30 p31 p32
          have hREF' := HREF.out
          have hOK' := HOK.out
          rw [HRN.out (by first | trivial | rfl)] at hREF' hOK'
          have C0 := plain_any (p.rows) p.vars.toNat HN12.out hOK' hREF' _ W3.heap.size W3 rr3 (Nat.le_refl _) p.vars.toNat 0 0 [] (.slice none 0 0) W3 (by omega) (by simp) (by
            have : 2 ^ (p.vars.toNat + 1) ≤ 2 ^ 13 := Nat.pow_le_pow_right (by omega) (by have := HN12.out; omega)
            simp; omega) (Below.refl _ _) ⟨[], OwnR.nil _ _ _ _, rfl, fun i hi => by simp at hi⟩ (Nat.le_refl _)
          rw [show ((0 : Nat) : Int) = 0 from rfl, List.nil_append] at C0
          have HC0 := hide C0
          clear C0 hREF' hOK'
          refine HC0.out.mono ?_
          rintro e W5 ⟨v5, rfl, hS5, hE5⟩
          obtain ⟨a5, c5, e5⟩ := hS5.form
          generalize List.length _ = m5 at e5
          subst e5
          have hb5 := hE5.below (Nat.le_refl _)
          have bS5 := bS3.later hb5
          have bR5 := bR4.later hb5
          have hbw5 := below2 hbw4 hb5
          clear s0 s2
          have s0 := bS5.cell 0 rfl
          have s1 := bS5.cell 1 rfl
          have s2 := bS5.cell 2 rfl
          have s3 := bS5.cell 3 rfl
          have y3 := bS5.frozen 3
          have t0 := (bR5).cell 0 rfl
          have t1 := (bR5).cell 1 rfl
          have t2 := (bR5).cell 2 rfl
          have t3 := (bR5).cell 3 rfl
          have f0 := (bR5).frozen 0
          have f1 := (bR5).frozen 1
          have f2 := (bR5).frozen 2
          have f3 := (bR5).frozen 3
          go_wp2_with fail
          have bR6 := bR5.other hRne 3 (.slice a5 m5 c5)
          obtain ⟨x1, x2, -⟩ := set4 bR6 (.bool false) (.int .i64 bs) (.int .i64 bg) (.slice a5 m5 c5)
          have x3 := x2 _ _ (hbw5.setCell (p := ⟨W1.heap.size, 3, none⟩) (show w.heap.size ≤ W1.heap.size by omega) (.slice a5 m5 c5)) (by omega)
          have hK := (((((hS5.at.keeps (keeps_frm_set W5 (b := W1.heap.size) (by omega) 3 (.slice a5 m5 c5))).keeps (keeps_frm_set _ (b := w.heap.size + 1) (by omega) 0 (.bool false))).keeps (keeps_frm_set _ (b := w.heap.size + 1) (by omega) 1 (.int .i64 bs))).keeps (keeps_frm_set _ (b := w.heap.size + 1) (by omega) 2 (.int .i64 bg))).keeps (keeps_frm_set _ (b := w.heap.size + 1) (by omega) 3 (.slice a5 m5 c5)))
          generalize World.setCell (World.setCell _ _ _) ⟨w.heap.size + 1, 3, none⟩ _ = Wf at x1 x3 hK ⊢
          have w0 := x1.cell 0 rfl
          have w1 := x1.cell 1 rfl
          have w2 := x1.cell 2 rfl
          have w3 := x1.cell 3 rfl
          refine bodyPost_ret (v := .tuple #[.agg #[.bool false, .int .i64 bs, .int .i64 bg, .slice a5 m5 c5], .int .i64 0]) (by simp [results, Try.results15, go_sem, w0, w1, w2, w3]) rfl ?_
          exact ⟨_, _, rfl, ⟨⟨_, by rw [HSV.out], by rw [HSV.out, HRN.out (by first | trivial | rfl)]; exact hK.keeps (keeps_frm_le _ (by omega))⟩, by rw [HE1.out]⟩, x3⟩
        · have hbd := HBD.out
          have hbd1 : -12000000000 ≤ bg := hbd.1
          have hbd2 : bg ≤ 12000000000 := hbd.2
          have hwr1 : W1.heap.size < wr.heap.size := by omega
          have C := goalr_any p.vars.toNat p.gain (.slice ra p.rows.length rc) _ bg W3 (HG0.below hbw3) HGL.out HGC.out (by omega) (by omega)
          rw [Int.toNat_of_nonneg v0] at C
          have HC := hide C
          clear C hbd p30 p31 p32 p1 lP
          refine HC.out.mono ?_
          rintro e W4 ⟨b7, hb7, rfl, hB7, hbb⟩
          have hO4 := hO3.later' (below2 hbb (bal W4 (.cells (rowCells (goalF p.gain bg) (.slice (some ⟨b7, 0, none⟩) p.gain.length p.gain.length)).toArray 26)))
          have hz34 := hb3.size
          have hz4 := hbb.size
          go_wp2_with (at_builtin; refine app_recs infoRow rfl (by decide) Try.underlying27 rfl _ _ rfl wr.heap.size _ Lr rfl hO4 (some ⟨W4.heap.size, 0, none⟩) 1 1 [rowCells (goalF p.gain bg) (.slice (some ⟨b7, 0, none⟩) p.gain.length p.gain.length)] rfl rfl (fun r hr => by simp at hr; rw [hr]; rfl) (fun u hu => by simp only [List.flatten_cons, List.flatten_nil, List.append_nil] at hu; exact rowCells_one u hu) (news2 (Blk.newA W4 _ rfl)) (fun h => by cases h) (by simp only [List.length_singleton]; omega) (by simp only [List.length_singleton]; omega) (by simp; omega) ?_; intro v5 WG hO5 hg5; obtain ⟨a6, c6, rfl⟩ := own_form hO5 (n := p.rows.length + 1) (by rw [List.length_append, HLl.out]; rfl))
          have hbX := below_own hO4 (by simp; omega) hg5
          have h4 := below2 hbb (bal W4 (.cells (rowCells (goalF p.gain bg) (.slice (some ⟨b7, 0, none⟩) p.gain.length p.gain.length)).toArray 26))
          have rrG := goal_rows HLl.out HGL.out HLs.out (hb3.trans (h4.mono hb3.size)) hO4 (hB7.later (bal W4 _)) hO5 hg5
          have bSG := (bS3.later h4).below hbX hwr1
          have bR4 := (bR3.later h4).below hbX (by omega)
          have hbw4 := hbwr.trans (((hb3.trans (h4.mono hb3.size)).trans hbX).mono (by have := hbwr.size; omega))
          have hltG := bSG.lt
          clear hlt3 bS3 bR3 hO4 hO5 hO3 hg5 h4 hbX
          have hREF' := HREF.out
          have hOK' := HOK.out
          rw [HRY.out (by first | trivial | rfl)] at hREF' hOK'
          have C0 := plain_any (p.rows ++ [goalF p.gain bg]) p.vars.toNat HN12.out hOK' hREF' _ WG.heap.size WG rrG (Nat.le_refl _) p.vars.toNat 0 0 [] (.slice none 0 0) WG (by omega) (by simp) (by
            have : 2 ^ (p.vars.toNat + 1) ≤ 2 ^ 13 := Nat.pow_le_pow_right (by omega) (by have := HN12.out; omega)
            simp; omega) (Below.refl _ _) ⟨[], OwnR.nil _ _ _ _, rfl, fun i hi => by simp at hi⟩ (Nat.le_refl _)
          rw [show ((0 : Nat) : Int) = 0 from rfl, List.nil_append] at C0
          have HC0 := hide C0
          clear C0 hREF' hOK'
          refine HC0.out.mono ?_
          rintro e W5 ⟨v5, rfl, hS5, hE5⟩
          obtain ⟨a5, c5, e5⟩ := hS5.form
          generalize List.length _ = m5 at e5
          subst e5
          have hb5 := hE5.below (Nat.le_refl _)
          have bS5 := bSG.later hb5
          have bR5 := bR4.later hb5
          have hbw5 := below2 hbw4 hb5
          clear s0 s2
          have s0 := bS5.cell 0 rfl
          have s1 := bS5.cell 1 rfl
          have s2 := bS5.cell 2 rfl
          have s3 := bS5.cell 3 rfl
          have y3 := bS5.frozen 3
          have t0 := (bR5).cell 0 rfl
          have t1 := (bR5).cell 1 rfl
          have t2 := (bR5).cell 2 rfl
          have t3 := (bR5).cell 3 rfl
          have f0 := (bR5).frozen 0
          have f1 := (bR5).frozen 1
          have f2 := (bR5).frozen 2
          have f3 := (bR5).frozen 3
          go_wp2_with fail
          have bR6 := bR5.other hRne 3 (.slice a5 m5 c5)
          obtain ⟨x1, x2, -⟩ := set4 bR6 (.bool true) (.int .i64 bs) (.int .i64 bg) (.slice a5 m5 c5)
          have x3 := x2 _ _ (hbw5.setCell (p := ⟨W1.heap.size, 3, none⟩) (show w.heap.size ≤ W1.heap.size by omega) (.slice a5 m5 c5)) (by omega)
          have hK := (((((hS5.at.keeps (keeps_frm_set W5 (b := W1.heap.size) (by omega) 3 (.slice a5 m5 c5))).keeps (keeps_frm_set _ (b := w.heap.size + 1) (by omega) 0 (.bool true))).keeps (keeps_frm_set _ (b := w.heap.size + 1) (by omega) 1 (.int .i64 bs))).keeps (keeps_frm_set _ (b := w.heap.size + 1) (by omega) 2 (.int .i64 bg))).keeps (keeps_frm_set _ (b := w.heap.size + 1) (by omega) 3 (.slice a5 m5 c5)))
          generalize World.setCell (World.setCell _ _ _) ⟨w.heap.size + 1, 3, none⟩ _ = Wf at x1 x3 hK ⊢
          have w0 := x1.cell 0 rfl
          have w1 := x1.cell 1 rfl
          have w2 := x1.cell 2 rfl
          have w3 := x1.cell 3 rfl
          refine bodyPost_ret (v := .tuple #[.agg #[.bool true, .int .i64 bs, .int .i64 bg, .slice a5 m5 c5], .int .i64 0]) (by simp [results, Try.results15, go_sem, w0, w1, w2, w3]) rfl ?_
          exact ⟨_, _, rfl, ⟨⟨_, by rw [HSV.out], by rw [HSV.out, HRY.out (by first | trivial | rfl)]; exact hK.keeps (keeps_frm_le _ (by omega))⟩, by rw [HE1.out]⟩, x3⟩
      · rw [show (((j + 1 : Nat) : Int) - 1) = (j : Int) from by omega]
        obtain ⟨b, o, rfl, hck⟩ := HLC.out j (by omega)
        rw [mapN_getD] at hck
        have HDN := hide (bestDown_step (g := p.gain) (l := GL) (i := j) (by omega))
        have hjl : decide (j < GL.length) = true := by simp; omega
        have hjl2 : j < GL.length := by omega
        generalize GL.getD j 0 = x at hck HDN
        have hlb : b < W1.heap.size := lt_of_cell hck
        have hbne : b ≠ W1.heap.size := Nat.ne_of_lt hlb
        have hbne' : W1.heap.size ≠ b := Ne.symm hbne
        have ck := bwc (keep hbr hck)
        have p2 := bwc ((bP1.later hbr).cell 2 rfl)
        have hbwr := below2 hbw1 hbr
        have HCALL := hide (fun (i : Bw wr.heap.size wr) => total_any p.gain x _ i.W (HG0.below (below2 hbwr i.h)) HGL.out HGC.out)
        have HST := hide (best_step p.gain x (bestDown p.gain (GL.drop (j + 1))))
        generalize bestDown p.gain (GL.drop (j + 1)) = bb at hS HDN HST
        generalize chosenF p.gain x = cg at HCALL HST
        clear hck
        go_wp2_with fail
        refine wp_region_bw (by kernel_rfl) (by kernel_rfl) ?_
        repeat (go_big_quiet_step (with_reducible exact quiet (HCALL.out _)))
        refine wpQuiet_nil ?_
        rintro _ ⟨i, rfl⟩
        have hSI := hS.later i.h
        have hbI := bwb i hbr (by omega)
        have hzI : W2.heap.size ≤ i.W.heap.size := by have := i.h.size; omega
        have ckI := ck i
        clear ck p2
        generalize i.W = WI at *
        obtain ⟨bf, bs, bg⟩ := bb
        cases bf
        · have hst : downStep p.gain x ⟨false, bs, bg⟩ = ⟨true, x, cg⟩ := by rw [HST.out]; rfl
          replace HST := hide hst
          clear hst
          have s0 := hSI.cell 0 rfl
          have s1 := hSI.cell 1 rfl
          have s2 := hSI.cell 2 rfl
          have z0 := hSI.frozen 0
          have z1 := hSI.frozen 1
          have z2 := hSI.frozen 2
          go_wp2_with fail
          go_roundw
          case rel => exact ⟨j, by omega, rfl, by rw [HDN.out, HST.out]; exact ((hSI.set 0 _).set 1 _).set 2 _, ((hbI.setCell (p := ⟨W1.heap.size, 0, none⟩) (Nat.le_refl _) _).setCell (p := ⟨W1.heap.size, 1, none⟩) (Nat.le_refl _) _).setCell (p := ⟨W1.heap.size, 2, none⟩) (Nat.le_refl _) _, by simpa [World.setCell] using hzI⟩
          case measure => simp [intOf]
        · by_cases hlt : cg < bg
          · have hst : downStep p.gain x ⟨true, bs, bg⟩ = ⟨true, bs, bg⟩ := by rw [HST.out, if_pos (by simp [hlt])]
            replace HST := hide hst
            clear hst
            have hge : ¬ bg ≤ cg := by omega
            have s0 := hSI.cell 0 rfl
            have s1 := hSI.cell 1 rfl
            have s2 := hSI.cell 2 rfl
            go_wp2_with fail
            go_roundw
            case rel => exact ⟨j, by omega, rfl, by rw [HDN.out, HST.out]; exact hSI, hbI, hzI⟩
            case measure => simp [intOf]
          · have hst : downStep p.gain x ⟨true, bs, bg⟩ = ⟨true, x, cg⟩ := by rw [HST.out, if_neg (by simp; try omega)]
            replace HST := hide hst
            clear hst
            have hge : bg ≤ cg := by omega
            have s0 := hSI.cell 0 rfl
            have s1 := hSI.cell 1 rfl
            have s2 := hSI.cell 2 rfl
            have z0 := hSI.frozen 0
            have z1 := hSI.frozen 1
            have z2 := hSI.frozen 2
            go_wp2_with fail
            go_roundw
            case rel => exact ⟨j, by omega, rfl, by rw [HDN.out, HST.out]; exact ((hSI.set 0 _).set 1 _).set 2 _, ((hbI.setCell (p := ⟨W1.heap.size, 0, none⟩) (Nat.le_refl _) _).setCell (p := ⟨W1.heap.size, 1, none⟩) (Nat.le_refl _) _).setCell (p := ⟨W1.heap.size, 2, none⟩) (Nat.le_refl _) _, by simpa [World.setCell] using hzI⟩
            case measure => simp [intOf]
end Go.Proofs.Ytcaklldmcbpbfaa
