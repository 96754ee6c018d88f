/- The walk of ProgramProof. Conditions: how the arguments lie in memory; that integers are of 64 bits. -/
import Derived.Test.YtcaklldmcbpbfaaLwB
import Derived.Test.YtcaklldmcbpbfaaPr4
import Derived.Test.YtcaklldmcbpbfaaPmodK
import Derived.Test.YtcaklldmcbpbfaaAppR2
import Derived.Test.YtcaklldmcbpbfaaRegM
namespace Go.Proofs.Ytcaklldmcbpbfaa
open Go.RowKit

theorem OwnR.empty {W : World} {b0 B k : Nat} {e : TypeId} (h : Blk W b0 [] e) (hB : B ≤ b0) : OwnR W B e k (.slice (some ⟨b0, 0, none⟩) 0 0) [] :=
  ⟨⟨by simp, .inr ⟨b0, 0, #[], rfl, hB, h, Nat.le_refl _, by unfold maxLen; omega, by simp, by simp⟩⟩, fun r hr => by cases hr⟩
theorem step_app_recs3 {W : World} {ops : Array Oper} {o : Oper} {T : Array Value} {D : List Deferred} {K : Act → World → Prop} {Q : Exit → Act → World → Prop} {E : Prop} {e t : TypeId} {k by_ : Nat} {z : Value}
    (hinfo : (Try.prog.info? e).map (fun i => (i.zero, i.size, i.bytes)) = some (some z, k, by_)) (hzk : z.cells.size = k) (hk : 0 < k) (hu : Try.prog.underlying t = some (.slice e)) (hgd : o.guard = none) (s x : Operand)
    (ho : o.op = .call { callee := .builtin .append, args := #[s, x], argTypes := #[t, t] }) (B : Nat) (v : Value) (L : List (List Value)) (hs : Act.eval ⟨T, D⟩ s = v) (hown : OwnR W B e k v L)
    (xa : Option Addr) (m c : Nat) (Lx : List (List Value)) (hm : m = Lx.length) (hx : Act.eval ⟨T, D⟩ x = .slice xa m c) (h6 : ∀ r ∈ Lx, r.length = k) (hone : ∀ u ∈ Lx.flatten, u.oneCell' = true)
    (hcells : ∀ b, xa = some b → ∀ j u, Lx.flatten[j]? = some u → W.cell? (b.add j) = some u) (hnone : xa = none → Lx = []) (hlen : (L.length + Lx.length) * by_ ≤ 140737488355328) (hlen2 : L.length + Lx.length < 1000000) (hB : B ≤ W.heap.size)
    (h : ∀ v' w', OwnR w' B e k v' (L ++ Lx) → W.grownBy w' v.ownBlock → K (Act.put ⟨T, D⟩ o.dst v') w') :
    if Region.wanted o (yielded ops T) = true then Oper.wp Try.prog o ⟨T, D⟩ W K Q else E :=
  step_app_recs2 (a := ⟨T, D⟩) hinfo hzk hk hu hgd s x ho B v L hs hown xa m c Lx hm hx h6 hone hcells hnone hlen hlen2 hB h
/-- a row in one block, its numbers in another -/
def GoalAt (gl : List Int) (g : Int) (B : Nat) (W : World) (v : Value) : Prop :=
  ∃ b8 b7 : Nat, B ≤ b8 ∧ v = .slice (some ⟨b8, 0, none⟩) 1 1 ∧ Blk W b8 (rowCells (goalF gl g) (.slice (some ⟨b7, 0, none⟩) gl.length gl.length)) 26 ∧ Blk W b7 ((goalF gl g).coef.map (Value.int .i64)) 3
theorem GoalAt.later {gl : List Int} {g : Int} {B : Nat} {W W' : World} {v : Value} (h : GoalAt gl g B W v) (hb : Below W.heap.size W W') : GoalAt gl g B W' v :=
  let ⟨b8, b7, h0, h1, h2, h3⟩ := h
  ⟨b8, b7, h0, h1, h2.later hb, h3.later hb⟩
theorem Blk.ne0 {W : World} {b c : Nat} {vs us : List Value} {t t' : TypeId} (h : Blk W b vs t) (k : Blk W c us t') (ht : vs ≠ us) : b ≠ c := fun e => by
  subst e
  have := (show W.heap[b]? = _ from h).symm.trans (show W.heap[b]? = _ from k)
  simp at this; exact ht this.1
theorem GoalAt.grown {gl : List Int} {g : Int} {B b0 : Nat} {W W' : World} {v : Value} (h : GoalAt gl g B W v) (h0 : Blk W b0 [] 26) (hg : W.grownBy W' (some b0)) : GoalAt gl g B W' v := by
  obtain ⟨b8, b7, k0, k1, k2, k3⟩ := h
  refine ⟨b8, b7, k0, k1, k2.grown hg ?_, k3.grown hg ?_⟩
  · have := h0.ne0 k2 (by simp [rowCells]); simpa using this
  · have := h0.ne k3 (by decide); simpa using this
theorem goal_coef_len (gl : List Int) (g : Int) : (goalF gl g).coef.length = gl.length := by simp [goalF]
/-- behind the append of the goal's row -/
theorem goal_rows {W0 W W' : World} {rows : List RowD} {gl : List Int} {g : Int} {Lr : List (List Value)} {v v' : Value} (hl : Lr.length = rows.length) (hgl : gl.length ≤ 13)
    (hs : ∀ i, i < rows.length → ∃ cv, Lr.getD i [] = rowCells (rows.getD i row0) cv ∧ IntsAt W0 cv (rows.getD i row0).coef) (h0 : Below W0.heap.size W0 W) (hO : OwnR W W0.heap.size 26 6 v Lr)
    {b7 : Nat} (hb7 : Blk W b7 ((goalF gl g).coef.map (Value.int .i64)) 3) (hO' : OwnR W' W0.heap.size 26 6 v' (Lr ++ [rowCells (goalF gl g) (.slice (some ⟨b7, 0, none⟩) gl.length gl.length)])) (hg : W.grownBy W' v.ownBlock) :
    RowsAt W' v' (rows ++ [goalF gl g]) := by
  have hb := h0.trans (below_own hO h0.size hg)
  have h7 : Blk W' b7 ((goalF gl g).coef.map (Value.int .i64)) 3 := by
    refine hb7.grown hg ?_
    rcases hO.form with ⟨e, -⟩ | ⟨g', c', cur, e, -, e3, -⟩
    · rw [e]; simp [Value.ownBlock]
    · rw [e]; simp only [Value.ownBlock]
      intro he
      have he : g' = b7 := Option.some.inj he
      subst he
      have := (show W.heap[g']? = _ from hb7).symm.trans e3
      simp at this
  refine (OwnR.rows hO' (l := rows ++ [goalF gl g]) (by simp [hl]) fun i hi => ?_)
  rcases Nat.lt_or_ge i rows.length with h1 | h1
  · obtain ⟨cv, e, hc⟩ := hs i h1
    rw [getD_app_left _ _ _ _ (by omega), getD_app_left _ _ _ _ h1]
    exact ⟨cv, e, hc.below hb⟩
  · have hi' : i = rows.length := by simp at hi; omega
    subst hi'
    rw [getD_app_right _ _ _ _ (by omega), getD_app_right _ _ _ _ (Nat.le_refl _), hl, Nat.sub_self]
    refine ⟨_, rfl, ?_⟩
    have := (h7.ints (B := 0) (Nat.zero_le _) (by rw [goal_coef_len]; omega)).keeps (keeps_frm _ _)
    rwa [goal_coef_len] at this
theorem news2 {W : World} {b0 : Nat} {r : List Value} {t : TypeId} (h : Blk W b0 r t) : ∀ b, (some ⟨b0, 0, none⟩ : Option Addr) = some b → ∀ j u, [r].flatten[j]? = some u → W.cell? (b.add j) = some u := fun b hb j u hj => by
  cases hb
  have h9 := h.cell j (by simpa using hj)
  cases j <;> simpa [Addr.add] using h9
set_option maxRecDepth 100000 in
set_option maxHeartbeats 600000 in
theorem proof_law (v : Int) (x : List Tri) (xv : Value) (g : List Int) (w : World) (hv : i64B v) (hx : TrisIn w.cell? xv x) (hx64 : ∀ t ∈ x, tri64 t) (hg : g.length = 8) (hg64 : ∀ y ∈ g, i64B y) :
    Calls Try.prog 5 #[.int .i64 v, xv, .agg (g.map (Value.int .i64)).toArray] w (Ret (.bool true) w) := by
  obtain ⟨g0, g1, g2, g3, g4, g5, g6, g7, rfl⟩ : ∃ g0 g1 g2 g3 g4 g5 g6 g7, g = [g0, g1, g2, g3, g4, g5, g6, g7] := by
    match g, hg with
    | [a, b, c, d, e, f, g, h], _ => exact ⟨_, _, _, _, _, _, _, _, rfl⟩
  obtain ⟨xa, xn, rfl, hx1, hx2, -⟩ := id hx
  have HM := hide (fun W (h : Below w.heap.size w W) => made_any v x (.slice xa x.length xn) [g0, g1, g2, g3, g4, g5, g6, g7] W hv (TrisIn.keeps (keeps_of_below h) hx) hx64 hg hg64)
  clear hx hx64 hg hg64
  go_enter Try.func5, Try.ntmps5
  go_wp2_with fail
  generalize hW0 : World.alloc w _ = W0
  have hb0 : Below w.heap.size w W0 := by rw [← hW0]; exact bal w _
  have bG : Blk W0 w.heap.size ([g0, g1, g2, g3, g4, g5, g6, g7].map (Value.int .i64)) 23 := by rw [← hW0]; exact Blk.new w _ _
  clear hW0
  refine (sane_any _).mono ?_
  rintro e w1 ⟨rfl, hb1⟩
  have bG1 := bG.later hb1
  have c0 := bG1.cell 0 rfl
  have c1 := bG1.cell 1 rfl
  have c2 := bG1.cell 2 rfl
  have c3 := bG1.cell 3 rfl
  have c4 := bG1.cell 4 rfl
  have c5 := bG1.cell 5 rfl
  have c6 := bG1.cell 6 rfl
  have c7 := bG1.cell 7 rfl
  go_wp2_with fail
  refine (HM.out _ (below2 hb0 hb1)).mono ?_
  rintro e w2 ⟨pv, rfl, hpv, hb2⟩
  clear c0 c1 c2 c3 c4 c5 c6 c7 HM bG1 bG
  obtain ⟨n, rows, gain, hmf, hn8, hr8, hV⟩ := made_form v x [g0, g1, g2, g3, g4, g5, g6, g7]
  rw [hmf] at hpv
  clear hmf
  obtain ⟨rv, gv, rfl, hr, hgn⟩ := hpv
  have hr2 : RowsAt w2 rv rows := hr.keeps (keeps_frm _ _)
  have hg2 : IntsAt w2 gv gain := hgn.keeps (keeps_frm _ _)
  obtain ⟨ra, rc, rfl, -, hrm, -⟩ := id hr2
  obtain ⟨ga, gc, rfl, -, hgm, -⟩ := id hg2
  have hbw2 := below2 (below2 hb0 hb1) hb2
  clear hr hgn hb0 hb1 hb2
  go_wp2_with fail
  generalize hW3 : World.alloc w2 _ = W3
  have bP : Blk W3 w2.heap.size [.int .i64 n, .slice ra rows.length rc, .slice ga gain.length gc] 29 := by rw [← hW3]; exact Blk.new w2 _ _
  have hb3 : Below w2.heap.size w2 W3 := by rw [← hW3]; exact bal w2 _
  have hr3 := hr2.below hb3
  have hg3 := hg2.below hb3
  have hbw3 := below2 hbw2 hb3
  have p0 := bP.cell 0 rfl
  have p1 := bP.cell 1 rfl
  have p2 := bP.cell 2 rfl
  clear hW3 hb3 hr2 hg2 hbw2
  refine (solve_any ⟨n, rows, gain⟩ _ _ _ hr3 hg3).mono ?_
  rintro e w4 ⟨sv, u, rfl, ⟨⟨pv, rfl, hpv⟩, rfl⟩, hb4⟩
  rw [solve_proof hV] at hpv
  rw [errF_in hV, solve_found hV, solve_gain hV]
  have hp4 : StepsIn w4.cell? pv (growF (rowsF ⟨n, rows, gain⟩) n 0 0 0) := hpv.keeps (keeps_frm _ _)
  have hsh : (growF (rowsF ⟨n, rows, gain⟩) n 0 0 0).length ≤ 8192 := proof_short hV
  have hRF : ∀ F, n < F → refutesF (rowsF ⟨n, rows, gain⟩) (growF (rowsF ⟨n, rows, gain⟩) n 0 0 0) F 0 (decF n 0 0) = true := fun F hF => proof_refutes hV F hF
  have HRF := hide hRF
  have HLS : Hid ((bestF ⟨n, rows, gain⟩).found = true → refutesF (rows ++ [goalF gain ((bestF ⟨n, rows, gain⟩).gain - 1)]) (growF (rowsF ⟨n, rows, gain⟩) n 0 0 0) ((growF (rowsF ⟨n, rows, gain⟩) n 0 0 0).length + n + 1) 0 (decF n 0 0) = false) := hide fun hf => less_not hV hf _ _
  have hbd := best_bd hV
  have HRO : Hid (RowsOk rows n) := hide (rows_ok hV)
  have HWO : Hid (∀ g', -100000000000 ≤ g' → g' ≤ 100000000000 → RowsOk (rows ++ [goalF gain g']) n) := hide fun g' h1 h2 => with_ok hV g' h1 h2
  have HGL : Hid (gain.length = n) := hide (by obtain ⟨-, -, -, -, h1, -⟩ := valid_parts hV; exact Int.ofNat.inj h1)
  have hgl : gain.length ≤ 13 := by rw [HGL.out]; omega
  have HGC := hide (show coefsB gain = true by obtain ⟨-, -, -, -, -, h1⟩ := valid_parts hV; exact h1)
  have HRN := hide (rowsF_none (p := ⟨n, rows, gain⟩))
  have HRY := hide (rowsF_found (p := ⟨n, rows, gain⟩))
  generalize growF (rowsF ⟨n, rows, gain⟩) n 0 0 0 = PL at hp4 hsh HRF HLS
  generalize (solveF ⟨n, rows, gain⟩).set = bs'
  generalize hRS : rowsF ⟨n, rows, gain⟩ = RS at HRF HRN HRY
  generalize bestF ⟨n, rows, gain⟩ = BB at HLS hbd HRN HRY ⊢
  obtain ⟨bf, bs, bg⟩ := BB
  have hbd1 : -12000000000 ≤ bg := hbd.1
  have hbd2 : bg ≤ 12000000000 := hbd.2
  obtain ⟨pa, pn, rfl, hp1, hp2, -⟩ := id hp4
  have bP4 := bP.later hb4
  have hr4 := hr3.below hb4
  have hg4 := hg3.below hb4
  have hbw4 := below2 hbw3 hb4
  have q0 := bP4.cell 0 rfl
  have q1 := bP4.cell 1 rfl
  have q2 := bP4.cell 2 rfl
  have lP := bP4.lt
  have e8 : decide (8192 < PL.length) = false := decide_eq_false (by omega)
  have hpl : (PL.length : Int) ≤ 9223372036854775807 := by omega
  clear hRS hRF hV hpv hbd p0 p1 p2 bP hr3 hg3 hbw3 hp1 hp2
  go_wp2_with fail
  generalize hW5 : World.alloc w4 _ = W5
  have hb5 : Below w4.heap.size w4 W5 := by rw [← hW5]; exact bal w4 _
  have bS : Blk W5 w4.heap.size [.bool bf, .int .i64 bs', .int .i64 bg, .slice pa PL.length pn] 37 := by rw [← hW5]; exact Blk.newA w4 _ rfl
  refine (undecided_any n _ _ _ (by omega)).mono ?_
  rintro e W6 ⟨ov, rfl, hov, hb6⟩
  have ho6 : IntsAt W6 ov (decF n 0 0) := by rw [decF_open]; exact hov.keeps (keeps_frm _ _)
  have hb46 := below2 hb5 hb6
  have bP6 := bP4.later hb46
  have bS6 := bS.later hb6
  have hr6 := hr4.below hb46
  have hg6 := hg4.below hb46
  have hbw6 := below2 hbw4 hb46
  have hp6 := hp4.keeps (keeps_of_below hb46)
  clear hW5 q0 q1 q2 lP bP4 bS hr4 hg4 hbw4 hp4 hov hb5 hb6 hb46 hb4
  obtain ⟨oa, on, rfl, -, -, -⟩ := id ho6
  rw [decF_len]
  have q0 := bP6.cell 0 rfl
  have q1 := bP6.cell 1 rfl
  have q2 := bP6.cell 2 rfl
  have s0 := bS6.cell 0 rfl
  have s2 := bS6.cell 2 rfl
  have s3 := bS6.cell 3 rfl
  have ho6' : IntsAt W6 (.slice oa n on) (decF n 0 0) := by rw [decF_len] at ho6; exact ho6
  clear ho6
  have hn12 : (decF n 0 0).length ≤ 12 := by rw [decF_len]; omega
  cases bf
  · have HRS : Hid (RS = rows) := hide (HRN.out rfl)
    have HRK : Hid (RowsOk rows (decF n 0 0).length) := hide (by rw [decF_len]; exact HRO.out)
    go_wp2_with fail
    refine (refutes_any rows _ _ PL (by omega) (PL.length + n + 1) 0 _ _ _ hn12 HRK.out hr6 hp6 ho6' (fun _ => by omega)).mono ?_
    rintro e W7 ⟨rfl, hb7⟩
    rw [show refutesF rows PL (PL.length + n + 1) 0 (decF n 0 0) = true by have := HRF.out (PL.length + n + 1) (by omega); rwa [HRS.out] at this]
    go_wp2_with fail
    go_ret
    exact ⟨rfl, below2 hbw6 hb7⟩
  · have HRS : Hid (RS = rows ++ [goalF gain bg]) := hide (HRY.out rfl)
    have HLS2 := hide (HLS.out rfl)
    have HR1 : Hid (RowsOk (rows ++ [goalF gain bg]) (decF n 0 0).length) := hide (by rw [decF_len]; exact HWO.out bg (by omega) (by omega))
    have HR2 : Hid (RowsOk (rows ++ [goalF gain (bg - 1)]) (decF n 0 0).length) := hide (by rw [decF_len]; exact HWO.out (bg - 1) (by omega) (by omega))
    obtain ⟨Lr, hLl, hL6, hLone, hLs, -, hLt⟩ := rows_from (RowsAt.to hr6)
    have hLt2 := hLt rows.length
    rw [List.take_of_length_le (Nat.le_of_eq hLl)] at hLt2
    have HLl := hide hLl
    have HLs := hide hLs
    have HLt := hide hLt2
    have HL6 := hide hL6
    have HLone := hide hLone
    have hLr8 : Lr.length ≤ 8 := by rw [hLl]; exact hr8
    have hrl9 : (rows ++ [goalF gain bg]).length ≤ 1000000 := by simp; omega
    have hrl9' : (rows ++ [goalF gain (bg - 1)]).length ≤ 1000000 := by simp; omega
    clear hLl hL6 hLone hLs hLt hLt2
    go_wp2_with fail
    refine wp_region_inv [some 48, some 49, some 50, some 51, some 52, some 53, some 54, some 55, some 56, some 57, some 12] (fun L vs W => match vs with | [x0, x1, x2, x3, x4, x5, x6, x7, x8, x9, x10] => Below W6.heap.size W6 W ∧ (L 0 = true → L 3 = false → ∃ b0 : Nat, W6.heap.size ≤ b0 ∧ x0 = .slice (some ⟨b0, 0, none⟩) 0 0 ∧ Blk W b0 [] 26) ∧ (L 1 = true → x1 = .pointer (some ⟨w2.heap.size, 1, none⟩)) ∧ (L 2 = true → x2 = .slice ra rows.length rc) ∧ (L 3 = true → L 9 = false → OwnR W W6.heap.size 26 6 x3 Lr) ∧ (L 4 = true → x4 = .agg #[.int .i64 n, .slice ra rows.length rc, .slice ga gain.length gc]) ∧ (L 5 = true → x5 = .pointer (some ⟨w4.heap.size, 2, none⟩)) ∧ (L 6 = true → x6 = .int .i64 bg) ∧ (L 7 = true → L 8 = false → ∃ b7 : Nat, x7 = rowV (goalF gain bg) (.slice (some ⟨b7, 0, none⟩) gain.length gain.length) ∧ Blk W b7 ((goalF gain bg).coef.map (Value.int .i64)) 3) ∧ (L 8 = true → L 9 = false → GoalAt gain bg W6.heap.size W x8) ∧ (L 9 = true → L 3 = true ∧ RowsAt W x9 (rows ++ [goalF gain bg])) ∧ (L 10 = true → L 9 = true ∧ x10 = x9) | _ => False) [_, _, _, _, _, _, _, _, _, _, _] (by kernel_rfl) (by kernel_rfl) rfl (by simp only [puts, Act.put, List.setIfInBounds_toArray, List.set_cons_zero, List.set_cons_succ] <;> rfl) ?_ ?_ ?_
    · exact ⟨(Below.refl _ _).drew, (fun h => by cases h), (fun h => by cases h), (fun h => by cases h), (fun h => by cases h), (fun h => by cases h), (fun h => by cases h), (fun h => by cases h), (fun h => by cases h), (fun h => by cases h), (fun h => by cases h), (fun h => by cases h)⟩
    · refine ⟨?_, ?_, ?_, ?_, ?_, ?_, ?_, ?_, ?_, ?_, ?_, trivial⟩
      · intro L vs W hlen hL hD hI K hK
        obtain ⟨x0, x1, x2, x3, x4, x5, x6, x7, x8, x9, x10, rfl⟩ := len11 hlen
        have hG := hI.1
        replace hI := hI.2
        have f0 := hI.1
        replace hI := hI.2
        have f1 := hI.1
        replace hI := hI.2
        have f2 := hI.1
        replace hI := hI.2
        have f3 := hI.1
        replace hI := hI.2
        have f4 := hI.1
        replace hI := hI.2
        have f5 := hI.1
        replace hI := hI.2
        have f6 := hI.1
        replace hI := hI.2
        have f7 := hI.1
        replace hI := hI.2
        have f8 := hI.1
        replace hI := hI.2
        have f9 := hI.1
        replace hI := hI.2
        have f10 := hI
        clear hI
        have q0 := keep hG q0
        have q1 := keep hG q1
        have q2 := keep hG q2
        have s0 := keep hG s0
        have s2 := keep hG s2
        have s3 := keep hG s3
        try simp only [puts, Act.put, List.setIfInBounds_toArray, List.set_cons_zero, List.set_cons_succ]
        try go_simp
        generalize hW' : World.alloc W _ = W'
        have hb : Below W.heap.size W W' := by rw [← hW']; exact bal W _
        exact hK.out _ _ _ (by simp only [puts, Act.put, List.setIfInBounds_toArray, List.set_cons_zero, List.set_cons_succ] <;> rfl) ⟨below2 hG hb, (fun _ => fun _ => ⟨W.heap.size, hG.size, rfl, by rw [← hW']; exact Blk.newA W _ rfl⟩), (fun h => f1 h), (fun h => f2 h), (fun h => (fun h => fun h9 => (h h9).later' hb) (f3 h)), (fun h => f4 h), (fun h => f5 h), (fun h => f6 h), (fun h => (fun h => fun h8 => let ⟨b7, e, hB⟩ := h h8; ⟨b7, e, hB.later hb⟩) (f7 h)), (fun h => (fun h => fun h9 => (h h9).later hb) (f8 h)), (fun h => (fun h => ⟨h.1, h.2.below hb⟩) (f9 h)), (fun h => f10 h)⟩
      · intro L vs W hlen hL hD hI K hK
        obtain ⟨x0, x1, x2, x3, x4, x5, x6, x7, x8, x9, x10, rfl⟩ := len11 hlen
        have hG := hI.1
        replace hI := hI.2
        have f0 := hI.1
        replace hI := hI.2
        have f1 := hI.1
        replace hI := hI.2
        have f2 := hI.1
        replace hI := hI.2
        have f3 := hI.1
        replace hI := hI.2
        have f4 := hI.1
        replace hI := hI.2
        have f5 := hI.1
        replace hI := hI.2
        have f6 := hI.1
        replace hI := hI.2
        have f7 := hI.1
        replace hI := hI.2
        have f8 := hI.1
        replace hI := hI.2
        have f9 := hI.1
        replace hI := hI.2
        have f10 := hI
        clear hI
        have q0 := keep hG q0
        have q1 := keep hG q1
        have q2 := keep hG q2
        have s0 := keep hG s0
        have s2 := keep hG s2
        have s3 := keep hG s3
        try simp only [puts, Act.put, List.setIfInBounds_toArray, List.set_cons_zero, List.set_cons_succ]
        try go_simp
        exact hK.out _ _ _ (by simp only [puts, Act.put, List.setIfInBounds_toArray, List.set_cons_zero, List.set_cons_succ] <;> rfl) ⟨hG, (fun h => f0 h), (fun _ => rfl), (fun h => f2 h), (fun h => f3 h), (fun h => f4 h), (fun h => f5 h), (fun h => f6 h), (fun h => f7 h), (fun h => f8 h), (fun h => f9 h), (fun h => f10 h)⟩
      · intro L vs W hlen hL hD hI K hK
        obtain ⟨x0, x1, x2, x3, x4, x5, x6, x7, x8, x9, x10, rfl⟩ := len11 hlen
        have hG := hI.1
        replace hI := hI.2
        have f0 := hI.1
        replace hI := hI.2
        have f1 := hI.1
        replace hI := hI.2
        have f2 := hI.1
        replace hI := hI.2
        have f3 := hI.1
        replace hI := hI.2
        have f4 := hI.1
        replace hI := hI.2
        have f5 := hI.1
        replace hI := hI.2
        have f6 := hI.1
        replace hI := hI.2
        have f7 := hI.1
        replace hI := hI.2
        have f8 := hI.1
        replace hI := hI.2
        have f9 := hI.1
        replace hI := hI.2
        have f10 := hI
        clear hI
        have q0 := keep hG q0
        have q1 := keep hG q1
        have q2 := keep hG q2
        have s0 := keep hG s0
        have s2 := keep hG s2
        have s3 := keep hG s3
        obtain rfl := f1 (hD.on 1 (by kernel_rfl))
        try simp only [puts, Act.put, List.setIfInBounds_toArray, List.set_cons_zero, List.set_cons_succ]
        try go_simp
        exact hK.out _ _ _ (by simp only [puts, Act.put, List.setIfInBounds_toArray, List.set_cons_zero, List.set_cons_succ] <;> rfl) ⟨hG, (fun h => f0 h), (fun h => f1 h), (fun _ => rfl), (fun h => f3 h), (fun h => f4 h), (fun h => f5 h), (fun h => f6 h), (fun h => f7 h), (fun h => f8 h), (fun h => f9 h), (fun h => f10 h)⟩
      · intro L vs W hlen hL hD hI K hK
        obtain ⟨x0, x1, x2, x3, x4, x5, x6, x7, x8, x9, x10, rfl⟩ := len11 hlen
        have hG := hI.1
        replace hI := hI.2
        have f0 := hI.1
        replace hI := hI.2
        have f1 := hI.1
        replace hI := hI.2
        have f2 := hI.1
        replace hI := hI.2
        have f3 := hI.1
        replace hI := hI.2
        have f4 := hI.1
        replace hI := hI.2
        have f5 := hI.1
        replace hI := hI.2
        have f6 := hI.1
        replace hI := hI.2
        have f7 := hI.1
        replace hI := hI.2
        have f8 := hI.1
        replace hI := hI.2
        have f9 := hI.1
        replace hI := hI.2
        have f10 := hI
        clear hI
        have q0 := keep hG q0
        have q1 := keep hG q1
        have q2 := keep hG q2
        have s0 := keep hG s0
        have s2 := keep hG s2
        have s3 := keep hG s3
        have g0 := f0 (hD.on 0 (by kernel_rfl))
        obtain rfl := f2 (hD.on 2 (by kernel_rfl))
        try simp only [puts, Act.put, List.setIfInBounds_toArray, List.set_cons_zero, List.set_cons_succ]
        obtain ⟨b0, hb0, rfl, hB0⟩ := g0 hL
        refine step_app_recs3 infoRow rfl (by decide) Try.underlying27 rfl _ _ rfl W6.heap.size _ [] rfl (OwnR.empty hB0 hb0) _ _ _ Lr HLl.out.symm rfl HL6.out HLone.out (fun b hb j u hj => keep hG (HLt.out.1 b hb j u hj)) HLt.out.2 (by simp only [List.length_nil, Nat.zero_add]; omega) (by simp only [List.length_nil, Nat.zero_add]; omega) hG.size ?_
        intro v' W' hO hg
        have hg' : W.grownBy W' (some b0) := hg
        have hb := below_own (OwnR.empty (k := 6) hB0 hb0) hG.size hg
        exact hK.out _ _ _ (by simp only [puts, Act.put, List.setIfInBounds_toArray, List.set_cons_zero, List.set_cons_succ] <;> rfl) ⟨hG.trans hb, (fun h => (fun _ h3 => absurd h3 (by simp)) (f0 h)), (fun h => f1 h), (fun h => f2 h), (fun _ => fun _ => by simpa using hO), (fun h => f4 h), (fun h => f5 h), (fun h => f6 h), (fun h => (fun h h8 => let ⟨b7, e, hB⟩ := h h8; ⟨b7, e, hB.grown hg' (by have := hB0.ne hB (by decide); simpa using this)⟩) (f7 h)), (fun h => (fun h h9 => (h h9).grown hB0 hg') (f8 h)), (fun h => (fun h => absurd (h.1.symm.trans hL) (by decide)) (f9 h)), (fun h => f10 h)⟩
      · intro L vs W hlen hL hD hI K hK
        obtain ⟨x0, x1, x2, x3, x4, x5, x6, x7, x8, x9, x10, rfl⟩ := len11 hlen
        have hG := hI.1
        replace hI := hI.2
        have f0 := hI.1
        replace hI := hI.2
        have f1 := hI.1
        replace hI := hI.2
        have f2 := hI.1
        replace hI := hI.2
        have f3 := hI.1
        replace hI := hI.2
        have f4 := hI.1
        replace hI := hI.2
        have f5 := hI.1
        replace hI := hI.2
        have f6 := hI.1
        replace hI := hI.2
        have f7 := hI.1
        replace hI := hI.2
        have f8 := hI.1
        replace hI := hI.2
        have f9 := hI.1
        replace hI := hI.2
        have f10 := hI
        clear hI
        have q0 := keep hG q0
        have q1 := keep hG q1
        have q2 := keep hG q2
        have s0 := keep hG s0
        have s2 := keep hG s2
        have s3 := keep hG s3
        try simp only [puts, Act.put, List.setIfInBounds_toArray, List.set_cons_zero, List.set_cons_succ]
        try go_simp
        exact hK.out _ _ _ (by simp only [puts, Act.put, List.setIfInBounds_toArray, List.set_cons_zero, List.set_cons_succ] <;> rfl) ⟨hG, (fun h => f0 h), (fun h => f1 h), (fun h => f2 h), (fun h => f3 h), (fun _ => rfl), (fun h => f5 h), (fun h => f6 h), (fun h => f7 h), (fun h => f8 h), (fun h => f9 h), (fun h => f10 h)⟩
      · intro L vs W hlen hL hD hI K hK
        obtain ⟨x0, x1, x2, x3, x4, x5, x6, x7, x8, x9, x10, rfl⟩ := len11 hlen
        have hG := hI.1
        replace hI := hI.2
        have f0 := hI.1
        replace hI := hI.2
        have f1 := hI.1
        replace hI := hI.2
        have f2 := hI.1
        replace hI := hI.2
        have f3 := hI.1
        replace hI := hI.2
        have f4 := hI.1
        replace hI := hI.2
        have f5 := hI.1
        replace hI := hI.2
        have f6 := hI.1
        replace hI := hI.2
        have f7 := hI.1
        replace hI := hI.2
        have f8 := hI.1
        replace hI := hI.2
        have f9 := hI.1
        replace hI := hI.2
        have f10 := hI
        clear hI
        have q0 := keep hG q0
        have q1 := keep hG q1
        have q2 := keep hG q2
        have s0 := keep hG s0
        have s2 := keep hG s2
        have s3 := keep hG s3
        try simp only [puts, Act.put, List.setIfInBounds_toArray, List.set_cons_zero, List.set_cons_succ]
        try go_simp
        exact hK.out _ _ _ (by simp only [puts, Act.put, List.setIfInBounds_toArray, List.set_cons_zero, List.set_cons_succ] <;> rfl) ⟨hG, (fun h => f0 h), (fun h => f1 h), (fun h => f2 h), (fun h => f3 h), (fun h => f4 h), (fun _ => rfl), (fun h => f6 h), (fun h => f7 h), (fun h => f8 h), (fun h => f9 h), (fun h => f10 h)⟩
      · intro L vs W hlen hL hD hI K hK
        obtain ⟨x0, x1, x2, x3, x4, x5, x6, x7, x8, x9, x10, rfl⟩ := len11 hlen
        have hG := hI.1
        replace hI := hI.2
        have f0 := hI.1
        replace hI := hI.2
        have f1 := hI.1
        replace hI := hI.2
        have f2 := hI.1
        replace hI := hI.2
        have f3 := hI.1
        replace hI := hI.2
        have f4 := hI.1
        replace hI := hI.2
        have f5 := hI.1
        replace hI := hI.2
        have f6 := hI.1
        replace hI := hI.2
        have f7 := hI.1
        replace hI := hI.2
        have f8 := hI.1
        replace hI := hI.2
        have f9 := hI.1
        replace hI := hI.2
        have f10 := hI
        clear hI
        have q0 := keep hG q0
        have q1 := keep hG q1
        have q2 := keep hG q2
        have s0 := keep hG s0
        have s2 := keep hG s2
        have s3 := keep hG s3
        obtain rfl := f5 (hD.on 5 (by kernel_rfl))
        try simp only [puts, Act.put, List.setIfInBounds_toArray, List.set_cons_zero, List.set_cons_succ]
        try go_simp
        exact hK.out _ _ _ (by simp only [puts, Act.put, List.setIfInBounds_toArray, List.set_cons_zero, List.set_cons_succ] <;> rfl) ⟨hG, (fun h => f0 h), (fun h => f1 h), (fun h => f2 h), (fun h => f3 h), (fun h => f4 h), (fun h => f5 h), (fun _ => rfl), (fun h => f7 h), (fun h => f8 h), (fun h => f9 h), (fun h => f10 h)⟩
      · intro L vs W hlen hL hD hI K hK
        obtain ⟨x0, x1, x2, x3, x4, x5, x6, x7, x8, x9, x10, rfl⟩ := len11 hlen
        have hG := hI.1
        replace hI := hI.2
        have f0 := hI.1
        replace hI := hI.2
        have f1 := hI.1
        replace hI := hI.2
        have f2 := hI.1
        replace hI := hI.2
        have f3 := hI.1
        replace hI := hI.2
        have f4 := hI.1
        replace hI := hI.2
        have f5 := hI.1
        replace hI := hI.2
        have f6 := hI.1
        replace hI := hI.2
        have f7 := hI.1
        replace hI := hI.2
        have f8 := hI.1
        replace hI := hI.2
        have f9 := hI.1
        replace hI := hI.2
        have f10 := hI
        clear hI
        have q0 := keep hG q0
        have q1 := keep hG q1
        have q2 := keep hG q2
        have s0 := keep hG s0
        have s2 := keep hG s2
        have s3 := keep hG s3
        obtain rfl := f4 (hD.on 4 (by kernel_rfl))
        obtain rfl := f6 (hD.on 6 (by kernel_rfl))
        try simp only [puts, Act.put, List.setIfInBounds_toArray, List.set_cons_zero, List.set_cons_succ]
        try go_simp
        refine (goalr_any n gain _ _ bg W (hg6.below (hG)) hgl HGC.out (by omega) (by omega)).mono ?_
        rintro e W' ⟨b7, hb7, rfl, hB7, hbb⟩
        try go_simp
        have hb := hbb
        exact hK.out _ _ _ (by simp only [puts, Act.put, List.setIfInBounds_toArray, List.set_cons_zero, List.set_cons_succ] <;> rfl) ⟨below2 hG hb, (fun h => (fun h => fun h3 => let ⟨b0, a1, a2, a3⟩ := h h3; ⟨b0, a1, a2, a3.later hb⟩) (f0 h)), (fun h => f1 h), (fun h => f2 h), (fun h => (fun h => fun h9 => (h h9).later' hb) (f3 h)), (fun h => f4 h), (fun h => f5 h), (fun h => f6 h), (fun _ => fun _ => ⟨b7, rfl, hB7⟩), (fun h => (fun h => fun h9 => (h h9).later hb) (f8 h)), (fun h => (fun h => ⟨h.1, h.2.below hb⟩) (f9 h)), (fun h => f10 h)⟩
      · intro L vs W hlen hL hD hI K hK
        obtain ⟨x0, x1, x2, x3, x4, x5, x6, x7, x8, x9, x10, rfl⟩ := len11 hlen
        have hG := hI.1
        replace hI := hI.2
        have f0 := hI.1
        replace hI := hI.2
        have f1 := hI.1
        replace hI := hI.2
        have f2 := hI.1
        replace hI := hI.2
        have f3 := hI.1
        replace hI := hI.2
        have f4 := hI.1
        replace hI := hI.2
        have f5 := hI.1
        replace hI := hI.2
        have f6 := hI.1
        replace hI := hI.2
        have f7 := hI.1
        replace hI := hI.2
        have f8 := hI.1
        replace hI := hI.2
        have f9 := hI.1
        replace hI := hI.2
        have f10 := hI
        clear hI
        have q0 := keep hG q0
        have q1 := keep hG q1
        have q2 := keep hG q2
        have s0 := keep hG s0
        have s2 := keep hG s2
        have s3 := keep hG s3
        have g7 := f7 (hD.on 7 (by kernel_rfl))
        try simp only [puts, Act.put, List.setIfInBounds_toArray, List.set_cons_zero, List.set_cons_succ]
        obtain ⟨b7, rfl, hB7⟩ := g7 hL
        go_simp
        generalize hW' : World.alloc W _ = W'
        have hb : Below W.heap.size W W' := by rw [← hW']; exact bal W _
        exact hK.out _ _ _ (by simp only [puts, Act.put, List.setIfInBounds_toArray, List.set_cons_zero, List.set_cons_succ] <;> rfl) ⟨below2 hG hb, (fun h => (fun h => fun h3 => let ⟨b0, a1, a2, a3⟩ := h h3; ⟨b0, a1, a2, a3.later hb⟩) (f0 h)), (fun h => f1 h), (fun h => f2 h), (fun h => (fun h => fun h9 => (h h9).later' hb) (f3 h)), (fun h => f4 h), (fun h => f5 h), (fun h => f6 h), (fun h => (fun _ h8 => absurd h8 (by simp)) (f7 h)), (fun _ => fun _ => ⟨W.heap.size, b7, hG.size, rfl, by rw [← hW']; exact Blk.newA W _ rfl, hB7.later hb⟩), (fun h => (fun h => ⟨h.1, h.2.below hb⟩) (f9 h)), (fun h => f10 h)⟩
      · intro L vs W hlen hL hD hI K hK
        obtain ⟨x0, x1, x2, x3, x4, x5, x6, x7, x8, x9, x10, rfl⟩ := len11 hlen
        have hG := hI.1
        replace hI := hI.2
        have f0 := hI.1
        replace hI := hI.2
        have f1 := hI.1
        replace hI := hI.2
        have f2 := hI.1
        replace hI := hI.2
        have f3 := hI.1
        replace hI := hI.2
        have f4 := hI.1
        replace hI := hI.2
        have f5 := hI.1
        replace hI := hI.2
        have f6 := hI.1
        replace hI := hI.2
        have f7 := hI.1
        replace hI := hI.2
        have f8 := hI.1
        replace hI := hI.2
        have f9 := hI.1
        replace hI := hI.2
        have f10 := hI
        clear hI
        have q0 := keep hG q0
        have q1 := keep hG q1
        have q2 := keep hG q2
        have s0 := keep hG s0
        have s2 := keep hG s2
        have s3 := keep hG s3
        have g3 := f3 (hD.on 3 (by kernel_rfl))
        have g8 := f8 (hD.on 8 (by kernel_rfl))
        try simp only [puts, Act.put, List.setIfInBounds_toArray, List.set_cons_zero, List.set_cons_succ]
        obtain ⟨b8, b7, hb8, rfl, hB8, hB7⟩ := g8 hL
        refine step_app_recs3 infoRow rfl (by decide) Try.underlying27 rfl _ _ rfl W6.heap.size _ Lr rfl (g3 hL) _ _ _ [rowCells (goalF gain bg) (.slice (some ⟨b7, 0, none⟩) gain.length gain.length)] rfl rfl (fun r hr => by simp at hr; rw [hr]; rfl) (fun u hu => rowCells_one u (by simpa using hu)) (news2 hB8) (fun e => by cases e) (by simp; omega) (by simp; omega) hG.size ?_
        intro v' W' hO hg
        have hb := below_own (g3 hL) hG.size hg
        exact hK.out _ _ _ (by simp only [puts, Act.put, List.setIfInBounds_toArray, List.set_cons_zero, List.set_cons_succ] <;> rfl) ⟨hG.trans hb, (fun h => (fun _ h3 => absurd (h3.symm.trans (hD.on 3 (by kernel_rfl))) (by decide)) (f0 h)), (fun h => f1 h), (fun h => f2 h), (fun h => (fun _ h9 => absurd h9 (by simp)) (f3 h)), (fun h => f4 h), (fun h => f5 h), (fun h => f6 h), (fun h => (fun _ h8 => absurd (h8.symm.trans (hD.on 8 (by kernel_rfl))) (by decide)) (f7 h)), (fun h => (fun _ h9 => absurd h9 (by simp)) (f8 h)), (fun _ => ⟨hD.on 3 (by kernel_rfl), goal_rows HLl.out hgl (HLs.out) hG (g3 hL) hB7 hO hg⟩), (fun h => (fun h => absurd (h.1.symm.trans hL) (by decide)) (f10 h))⟩
      · intro L vs W hlen hL hD hI K hK
        obtain ⟨x0, x1, x2, x3, x4, x5, x6, x7, x8, x9, x10, rfl⟩ := len11 hlen
        have hG := hI.1
        replace hI := hI.2
        have f0 := hI.1
        replace hI := hI.2
        have f1 := hI.1
        replace hI := hI.2
        have f2 := hI.1
        replace hI := hI.2
        have f3 := hI.1
        replace hI := hI.2
        have f4 := hI.1
        replace hI := hI.2
        have f5 := hI.1
        replace hI := hI.2
        have f6 := hI.1
        replace hI := hI.2
        have f7 := hI.1
        replace hI := hI.2
        have f8 := hI.1
        replace hI := hI.2
        have f9 := hI.1
        replace hI := hI.2
        have f10 := hI
        clear hI
        have q0 := keep hG q0
        have q1 := keep hG q1
        have q2 := keep hG q2
        have s0 := keep hG s0
        have s2 := keep hG s2
        have s3 := keep hG s3
        have g9 := f9 (hD.on 9 (by kernel_rfl))
        try simp only [puts, Act.put, List.setIfInBounds_toArray, List.set_cons_zero, List.set_cons_succ]
        try go_simp
        exact hK.out _ _ _ (by simp only [puts, Act.put, List.setIfInBounds_toArray, List.set_cons_zero, List.set_cons_succ] <;> rfl) ⟨hG, (fun h => f0 h), (fun h => f1 h), (fun h => f2 h), (fun h => f3 h), (fun h => f4 h), (fun h => f5 h), (fun h => f6 h), (fun h => f7 h), (fun h => f8 h), (fun h => f9 h), (fun _ => ⟨hD.on 9 (by kernel_rfl), rfl⟩)⟩
    intro L vs W hlen hall hI
    obtain ⟨x0, x1, x2, x3, x4, x5, x6, x7, x8, x9, x10, rfl⟩ := len11 hlen
    have hG := hI.1
    replace hI := hI.2
    have f0 := hI.1
    replace hI := hI.2
    have f1 := hI.1
    replace hI := hI.2
    have f2 := hI.1
    replace hI := hI.2
    have f3 := hI.1
    replace hI := hI.2
    have f4 := hI.1
    replace hI := hI.2
    have f5 := hI.1
    replace hI := hI.2
    have f6 := hI.1
    replace hI := hI.2
    have f7 := hI.1
    replace hI := hI.2
    have f8 := hI.1
    replace hI := hI.2
    have f9 := hI.1
    replace hI := hI.2
    have f10 := hI
    clear hI
    have g0 := f0 (hall 0 (by decide))
    obtain rfl := f1 (hall 1 (by decide))
    obtain rfl := f2 (hall 2 (by decide))
    have g3 := f3 (hall 3 (by decide))
    obtain rfl := f4 (hall 4 (by decide))
    obtain rfl := f5 (hall 5 (by decide))
    obtain rfl := f6 (hall 6 (by decide))
    have g7 := f7 (hall 7 (by decide))
    have g8 := f8 (hall 8 (by decide))
    have g9 := f9 (hall 9 (by decide))
    have g10 := f10 (hall 10 (by decide))
    clear hall f0 f1 f2 f3 f4 f5 f6 f7 f8 f9 f10
    try simp only [puts, Act.put, List.setIfInBounds_toArray, List.set_cons_zero, List.set_cons_succ]
    obtain ⟨W7, rfl⟩ : ∃ W', W' = W := ⟨_, rfl⟩
    have hb67 := hG
    have p7 := hp6.keeps (keeps_of_below hb67)
    have bP7 := bP6.later hb67
    have bS7 := bS6.later hb67
    obtain ⟨-, rfl⟩ := g10
    have hrw7 := g9.2
    clear g9 q0 q1 q2 s0 s2 s3 hG
    have q0 := bP7.cell 0 rfl
    have q1 := bP7.cell 1 rfl
    have q2 := bP7.cell 2 rfl
    have s0 := bS7.cell 0 rfl
    have s2 := bS7.cell 2 rfl
    have s3 := bS7.cell 3 rfl
    have HLT7 := hide (fun b hb j u hj => keep hb67 (HLt.out.1 b hb j u hj))
    have HLS7 := hide (fun i hi => let ⟨cv, e, hc⟩ := HLs.out i hi; (⟨cv, e, (show IntsAt W6 _ _ from hc).below hb67⟩ : ∃ cv, Lr.getD i [] = rowCells (rows.getD i row0) cv ∧ IntsAt W7 cv (rows.getD i row0).coef))
    have e3 : IntKind.i64.wrap (bg - 1) = bg - 1 := IntWalk.i64_in _ ⟨by omega, by omega⟩
    go_wp2_with fail
    refine wp_region_inv [some 58, some 59, some 60, some 61, some 62, some 63, some 64, some 65, some 66, some 67, some 68, some 13] (fun L vs W => match vs with | [x0, x1, x2, x3, x4, x5, x6, x7, x8, x9, x10, x11] => Below W7.heap.size W7 W ∧ (L 0 = true → L 3 = false → ∃ b0 : Nat, W7.heap.size ≤ b0 ∧ x0 = .slice (some ⟨b0, 0, none⟩) 0 0 ∧ Blk W b0 [] 26) ∧ (L 1 = true → x1 = .pointer (some ⟨w2.heap.size, 1, none⟩)) ∧ (L 2 = true → x2 = .slice ra rows.length rc) ∧ (L 3 = true → L 10 = false → OwnR W W7.heap.size 26 6 x3 Lr) ∧ (L 4 = true → x4 = .agg #[.int .i64 n, .slice ra rows.length rc, .slice ga gain.length gc]) ∧ (L 5 = true → x5 = .pointer (some ⟨w4.heap.size, 2, none⟩)) ∧ (L 6 = true → x6 = .int .i64 bg) ∧ (L 7 = true → x7 = .int .i64 (bg - 1)) ∧ (L 8 = true → L 9 = false → ∃ b7 : Nat, x8 = rowV (goalF gain (bg - 1)) (.slice (some ⟨b7, 0, none⟩) gain.length gain.length) ∧ Blk W b7 ((goalF gain (bg - 1)).coef.map (Value.int .i64)) 3) ∧ (L 9 = true → L 10 = false → GoalAt gain (bg - 1) W7.heap.size W x9) ∧ (L 10 = true → L 3 = true ∧ RowsAt W x10 (rows ++ [goalF gain (bg - 1)])) ∧ (L 11 = true → L 10 = true ∧ x11 = x10) | _ => False) [_, _, _, _, _, _, _, _, _, _, _, _] (by kernel_rfl) (by kernel_rfl) rfl (by simp only [puts, Act.put, List.setIfInBounds_toArray, List.set_cons_zero, List.set_cons_succ] <;> rfl) ?_ ?_ ?_
    · exact ⟨(Below.refl _ _).drew, (fun h => by cases h), (fun h => by cases h), (fun h => by cases h), (fun h => by cases h), (fun h => by cases h), (fun h => by cases h), (fun h => by cases h), (fun h => by cases h), (fun h => by cases h), (fun h => by cases h), (fun h => by cases h), (fun h => by cases h)⟩
    · refine ⟨?_, ?_, ?_, ?_, ?_, ?_, ?_, ?_, ?_, ?_, ?_, ?_, trivial⟩
      · intro L vs W hlen hL hD hI K hK
        obtain ⟨x0, x1, x2, x3, x4, x5, x6, x7, x8, x9, x10, x11, rfl⟩ := len12 hlen
        have hG := hI.1
        replace hI := hI.2
        have f0 := hI.1
        replace hI := hI.2
        have f1 := hI.1
        replace hI := hI.2
        have f2 := hI.1
        replace hI := hI.2
        have f3 := hI.1
        replace hI := hI.2
        have f4 := hI.1
        replace hI := hI.2
        have f5 := hI.1
        replace hI := hI.2
        have f6 := hI.1
        replace hI := hI.2
        have f7 := hI.1
        replace hI := hI.2
        have f8 := hI.1
        replace hI := hI.2
        have f9 := hI.1
        replace hI := hI.2
        have f10 := hI.1
        replace hI := hI.2
        have f11 := hI
        clear hI
        have q0 := keep hG q0
        have q1 := keep hG q1
        have q2 := keep hG q2
        have s0 := keep hG s0
        have s2 := keep hG s2
        have s3 := keep hG s3
        try simp only [puts, Act.put, List.setIfInBounds_toArray, List.set_cons_zero, List.set_cons_succ]
        try go_simp
        generalize hW' : World.alloc W _ = W'
        have hb : Below W.heap.size W W' := by rw [← hW']; exact bal W _
        exact hK.out _ _ _ (by simp only [puts, Act.put, List.setIfInBounds_toArray, List.set_cons_zero, List.set_cons_succ] <;> rfl) ⟨below2 hG hb, (fun _ => fun _ => ⟨W.heap.size, hG.size, rfl, by rw [← hW']; exact Blk.newA W _ rfl⟩), (fun h => f1 h), (fun h => f2 h), (fun h => (fun h => fun h9 => (h h9).later' hb) (f3 h)), (fun h => f4 h), (fun h => f5 h), (fun h => f6 h), (fun h => f7 h), (fun h => (fun h => fun h8 => let ⟨b7, e, hB⟩ := h h8; ⟨b7, e, hB.later hb⟩) (f8 h)), (fun h => (fun h => fun h9 => (h h9).later hb) (f9 h)), (fun h => (fun h => ⟨h.1, h.2.below hb⟩) (f10 h)), (fun h => f11 h)⟩
      · intro L vs W hlen hL hD hI K hK
        obtain ⟨x0, x1, x2, x3, x4, x5, x6, x7, x8, x9, x10, x11, rfl⟩ := len12 hlen
        have hG := hI.1
        replace hI := hI.2
        have f0 := hI.1
        replace hI := hI.2
        have f1 := hI.1
        replace hI := hI.2
        have f2 := hI.1
        replace hI := hI.2
        have f3 := hI.1
        replace hI := hI.2
        have f4 := hI.1
        replace hI := hI.2
        have f5 := hI.1
        replace hI := hI.2
        have f6 := hI.1
        replace hI := hI.2
        have f7 := hI.1
        replace hI := hI.2
        have f8 := hI.1
        replace hI := hI.2
        have f9 := hI.1
        replace hI := hI.2
        have f10 := hI.1
        replace hI := hI.2
        have f11 := hI
        clear hI
        have q0 := keep hG q0
        have q1 := keep hG q1
        have q2 := keep hG q2
        have s0 := keep hG s0
        have s2 := keep hG s2
        have s3 := keep hG s3
        try simp only [puts, Act.put, List.setIfInBounds_toArray, List.set_cons_zero, List.set_cons_succ]
        try go_simp
        exact hK.out _ _ _ (by simp only [puts, Act.put, List.setIfInBounds_toArray, List.set_cons_zero, List.set_cons_succ] <;> rfl) ⟨hG, (fun h => f0 h), (fun _ => rfl), (fun h => f2 h), (fun h => f3 h), (fun h => f4 h), (fun h => f5 h), (fun h => f6 h), (fun h => f7 h), (fun h => f8 h), (fun h => f9 h), (fun h => f10 h), (fun h => f11 h)⟩
      · intro L vs W hlen hL hD hI K hK
        obtain ⟨x0, x1, x2, x3, x4, x5, x6, x7, x8, x9, x10, x11, rfl⟩ := len12 hlen
        have hG := hI.1
        replace hI := hI.2
        have f0 := hI.1
        replace hI := hI.2
        have f1 := hI.1
        replace hI := hI.2
        have f2 := hI.1
        replace hI := hI.2
        have f3 := hI.1
        replace hI := hI.2
        have f4 := hI.1
        replace hI := hI.2
        have f5 := hI.1
        replace hI := hI.2
        have f6 := hI.1
        replace hI := hI.2
        have f7 := hI.1
        replace hI := hI.2
        have f8 := hI.1
        replace hI := hI.2
        have f9 := hI.1
        replace hI := hI.2
        have f10 := hI.1
        replace hI := hI.2
        have f11 := hI
        clear hI
        have q0 := keep hG q0
        have q1 := keep hG q1
        have q2 := keep hG q2
        have s0 := keep hG s0
        have s2 := keep hG s2
        have s3 := keep hG s3
        obtain rfl := f1 (hD.on 1 (by kernel_rfl))
        try simp only [puts, Act.put, List.setIfInBounds_toArray, List.set_cons_zero, List.set_cons_succ]
        try go_simp
        exact hK.out _ _ _ (by simp only [puts, Act.put, List.setIfInBounds_toArray, List.set_cons_zero, List.set_cons_succ] <;> rfl) ⟨hG, (fun h => f0 h), (fun h => f1 h), (fun _ => rfl), (fun h => f3 h), (fun h => f4 h), (fun h => f5 h), (fun h => f6 h), (fun h => f7 h), (fun h => f8 h), (fun h => f9 h), (fun h => f10 h), (fun h => f11 h)⟩
      · intro L vs W hlen hL hD hI K hK
        obtain ⟨x0, x1, x2, x3, x4, x5, x6, x7, x8, x9, x10, x11, rfl⟩ := len12 hlen
        have hG := hI.1
        replace hI := hI.2
        have f0 := hI.1
        replace hI := hI.2
        have f1 := hI.1
        replace hI := hI.2
        have f2 := hI.1
        replace hI := hI.2
        have f3 := hI.1
        replace hI := hI.2
        have f4 := hI.1
        replace hI := hI.2
        have f5 := hI.1
        replace hI := hI.2
        have f6 := hI.1
        replace hI := hI.2
        have f7 := hI.1
        replace hI := hI.2
        have f8 := hI.1
        replace hI := hI.2
        have f9 := hI.1
        replace hI := hI.2
        have f10 := hI.1
        replace hI := hI.2
        have f11 := hI
        clear hI
        have q0 := keep hG q0
        have q1 := keep hG q1
        have q2 := keep hG q2
        have s0 := keep hG s0
        have s2 := keep hG s2
        have s3 := keep hG s3
        have g0 := f0 (hD.on 0 (by kernel_rfl))
        obtain rfl := f2 (hD.on 2 (by kernel_rfl))
        try simp only [puts, Act.put, List.setIfInBounds_toArray, List.set_cons_zero, List.set_cons_succ]
        obtain ⟨b0, hb0, rfl, hB0⟩ := g0 hL
        refine step_app_recs3 infoRow rfl (by decide) Try.underlying27 rfl _ _ rfl W7.heap.size _ [] rfl (OwnR.empty hB0 hb0) _ _ _ Lr HLl.out.symm rfl HL6.out HLone.out (fun b hb j u hj => keep hG (HLT7.out b hb j u hj)) HLt.out.2 (by simp only [List.length_nil, Nat.zero_add]; omega) (by simp only [List.length_nil, Nat.zero_add]; omega) hG.size ?_
        intro v' W' hO hg
        have hg' : W.grownBy W' (some b0) := hg
        have hb := below_own (OwnR.empty (k := 6) hB0 hb0) hG.size hg
        exact hK.out _ _ _ (by simp only [puts, Act.put, List.setIfInBounds_toArray, List.set_cons_zero, List.set_cons_succ] <;> rfl) ⟨hG.trans hb, (fun h => (fun _ h3 => absurd h3 (by simp)) (f0 h)), (fun h => f1 h), (fun h => f2 h), (fun _ => fun _ => by simpa using hO), (fun h => f4 h), (fun h => f5 h), (fun h => f6 h), (fun h => f7 h), (fun h => (fun h h8 => let ⟨b7, e, hB⟩ := h h8; ⟨b7, e, hB.grown hg' (by have := hB0.ne hB (by decide); simpa using this)⟩) (f8 h)), (fun h => (fun h h9 => (h h9).grown hB0 hg') (f9 h)), (fun h => (fun h => absurd (h.1.symm.trans hL) (by decide)) (f10 h)), (fun h => f11 h)⟩
      · intro L vs W hlen hL hD hI K hK
        obtain ⟨x0, x1, x2, x3, x4, x5, x6, x7, x8, x9, x10, x11, rfl⟩ := len12 hlen
        have hG := hI.1
        replace hI := hI.2
        have f0 := hI.1
        replace hI := hI.2
        have f1 := hI.1
        replace hI := hI.2
        have f2 := hI.1
        replace hI := hI.2
        have f3 := hI.1
        replace hI := hI.2
        have f4 := hI.1
        replace hI := hI.2
        have f5 := hI.1
        replace hI := hI.2
        have f6 := hI.1
        replace hI := hI.2
        have f7 := hI.1
        replace hI := hI.2
        have f8 := hI.1
        replace hI := hI.2
        have f9 := hI.1
        replace hI := hI.2
        have f10 := hI.1
        replace hI := hI.2
        have f11 := hI
        clear hI
        have q0 := keep hG q0
        have q1 := keep hG q1
        have q2 := keep hG q2
        have s0 := keep hG s0
        have s2 := keep hG s2
        have s3 := keep hG s3
        try simp only [puts, Act.put, List.setIfInBounds_toArray, List.set_cons_zero, List.set_cons_succ]
        try go_simp
        exact hK.out _ _ _ (by simp only [puts, Act.put, List.setIfInBounds_toArray, List.set_cons_zero, List.set_cons_succ] <;> rfl) ⟨hG, (fun h => f0 h), (fun h => f1 h), (fun h => f2 h), (fun h => f3 h), (fun _ => rfl), (fun h => f5 h), (fun h => f6 h), (fun h => f7 h), (fun h => f8 h), (fun h => f9 h), (fun h => f10 h), (fun h => f11 h)⟩
      · intro L vs W hlen hL hD hI K hK
        obtain ⟨x0, x1, x2, x3, x4, x5, x6, x7, x8, x9, x10, x11, rfl⟩ := len12 hlen
        have hG := hI.1
        replace hI := hI.2
        have f0 := hI.1
        replace hI := hI.2
        have f1 := hI.1
        replace hI := hI.2
        have f2 := hI.1
        replace hI := hI.2
        have f3 := hI.1
        replace hI := hI.2
        have f4 := hI.1
        replace hI := hI.2
        have f5 := hI.1
        replace hI := hI.2
        have f6 := hI.1
        replace hI := hI.2
        have f7 := hI.1
        replace hI := hI.2
        have f8 := hI.1
        replace hI := hI.2
        have f9 := hI.1
        replace hI := hI.2
        have f10 := hI.1
        replace hI := hI.2
        have f11 := hI
        clear hI
        have q0 := keep hG q0
        have q1 := keep hG q1
        have q2 := keep hG q2
        have s0 := keep hG s0
        have s2 := keep hG s2
        have s3 := keep hG s3
        try simp only [puts, Act.put, List.setIfInBounds_toArray, List.set_cons_zero, List.set_cons_succ]
        try go_simp
        exact hK.out _ _ _ (by simp only [puts, Act.put, List.setIfInBounds_toArray, List.set_cons_zero, List.set_cons_succ] <;> rfl) ⟨hG, (fun h => f0 h), (fun h => f1 h), (fun h => f2 h), (fun h => f3 h), (fun h => f4 h), (fun _ => rfl), (fun h => f6 h), (fun h => f7 h), (fun h => f8 h), (fun h => f9 h), (fun h => f10 h), (fun h => f11 h)⟩
      · intro L vs W hlen hL hD hI K hK
        obtain ⟨x0, x1, x2, x3, x4, x5, x6, x7, x8, x9, x10, x11, rfl⟩ := len12 hlen
        have hG := hI.1
        replace hI := hI.2
        have f0 := hI.1
        replace hI := hI.2
        have f1 := hI.1
        replace hI := hI.2
        have f2 := hI.1
        replace hI := hI.2
        have f3 := hI.1
        replace hI := hI.2
        have f4 := hI.1
        replace hI := hI.2
        have f5 := hI.1
        replace hI := hI.2
        have f6 := hI.1
        replace hI := hI.2
        have f7 := hI.1
        replace hI := hI.2
        have f8 := hI.1
        replace hI := hI.2
        have f9 := hI.1
        replace hI := hI.2
        have f10 := hI.1
        replace hI := hI.2
        have f11 := hI
        clear hI
        have q0 := keep hG q0
        have q1 := keep hG q1
        have q2 := keep hG q2
        have s0 := keep hG s0
        have s2 := keep hG s2
        have s3 := keep hG s3
        obtain rfl := f5 (hD.on 5 (by kernel_rfl))
        try simp only [puts, Act.put, List.setIfInBounds_toArray, List.set_cons_zero, List.set_cons_succ]
        try go_simp
        exact hK.out _ _ _ (by simp only [puts, Act.put, List.setIfInBounds_toArray, List.set_cons_zero, List.set_cons_succ] <;> rfl) ⟨hG, (fun h => f0 h), (fun h => f1 h), (fun h => f2 h), (fun h => f3 h), (fun h => f4 h), (fun h => f5 h), (fun _ => rfl), (fun h => f7 h), (fun h => f8 h), (fun h => f9 h), (fun h => f10 h), (fun h => f11 h)⟩
      · intro L vs W hlen hL hD hI K hK
        obtain ⟨x0, x1, x2, x3, x4, x5, x6, x7, x8, x9, x10, x11, rfl⟩ := len12 hlen
        have hG := hI.1
        replace hI := hI.2
        have f0 := hI.1
        replace hI := hI.2
        have f1 := hI.1
        replace hI := hI.2
        have f2 := hI.1
        replace hI := hI.2
        have f3 := hI.1
        replace hI := hI.2
        have f4 := hI.1
        replace hI := hI.2
        have f5 := hI.1
        replace hI := hI.2
        have f6 := hI.1
        replace hI := hI.2
        have f7 := hI.1
        replace hI := hI.2
        have f8 := hI.1
        replace hI := hI.2
        have f9 := hI.1
        replace hI := hI.2
        have f10 := hI.1
        replace hI := hI.2
        have f11 := hI
        clear hI
        have q0 := keep hG q0
        have q1 := keep hG q1
        have q2 := keep hG q2
        have s0 := keep hG s0
        have s2 := keep hG s2
        have s3 := keep hG s3
        obtain rfl := f6 (hD.on 6 (by kernel_rfl))
        try simp only [puts, Act.put, List.setIfInBounds_toArray, List.set_cons_zero, List.set_cons_succ]
        try go_simp
        exact hK.out _ _ _ (by simp only [puts, Act.put, List.setIfInBounds_toArray, List.set_cons_zero, List.set_cons_succ] <;> rfl) ⟨hG, (fun h => f0 h), (fun h => f1 h), (fun h => f2 h), (fun h => f3 h), (fun h => f4 h), (fun h => f5 h), (fun h => f6 h), (fun _ => rfl), (fun h => f8 h), (fun h => f9 h), (fun h => f10 h), (fun h => f11 h)⟩
      · intro L vs W hlen hL hD hI K hK
        obtain ⟨x0, x1, x2, x3, x4, x5, x6, x7, x8, x9, x10, x11, rfl⟩ := len12 hlen
        have hG := hI.1
        replace hI := hI.2
        have f0 := hI.1
        replace hI := hI.2
        have f1 := hI.1
        replace hI := hI.2
        have f2 := hI.1
        replace hI := hI.2
        have f3 := hI.1
        replace hI := hI.2
        have f4 := hI.1
        replace hI := hI.2
        have f5 := hI.1
        replace hI := hI.2
        have f6 := hI.1
        replace hI := hI.2
        have f7 := hI.1
        replace hI := hI.2
        have f8 := hI.1
        replace hI := hI.2
        have f9 := hI.1
        replace hI := hI.2
        have f10 := hI.1
        replace hI := hI.2
        have f11 := hI
        clear hI
        have q0 := keep hG q0
        have q1 := keep hG q1
        have q2 := keep hG q2
        have s0 := keep hG s0
        have s2 := keep hG s2
        have s3 := keep hG s3
        obtain rfl := f4 (hD.on 4 (by kernel_rfl))
        obtain rfl := f7 (hD.on 7 (by kernel_rfl))
        try simp only [puts, Act.put, List.setIfInBounds_toArray, List.set_cons_zero, List.set_cons_succ]
        try go_simp
        refine (goalr_any n gain _ _ (bg - 1) W (hg6.below (below2 hb67 hG)) hgl HGC.out (by omega) (by omega)).mono ?_
        rintro e W' ⟨b7, hb7, rfl, hB7, hbb⟩
        try go_simp
        have hb := hbb
        exact hK.out _ _ _ (by simp only [puts, Act.put, List.setIfInBounds_toArray, List.set_cons_zero, List.set_cons_succ] <;> rfl) ⟨below2 hG hb, (fun h => (fun h => fun h3 => let ⟨b0, a1, a2, a3⟩ := h h3; ⟨b0, a1, a2, a3.later hb⟩) (f0 h)), (fun h => f1 h), (fun h => f2 h), (fun h => (fun h => fun h9 => (h h9).later' hb) (f3 h)), (fun h => f4 h), (fun h => f5 h), (fun h => f6 h), (fun h => f7 h), (fun _ => fun _ => ⟨b7, rfl, hB7⟩), (fun h => (fun h => fun h9 => (h h9).later hb) (f9 h)), (fun h => (fun h => ⟨h.1, h.2.below hb⟩) (f10 h)), (fun h => f11 h)⟩
      · intro L vs W hlen hL hD hI K hK
        obtain ⟨x0, x1, x2, x3, x4, x5, x6, x7, x8, x9, x10, x11, rfl⟩ := len12 hlen
        have hG := hI.1
        replace hI := hI.2
        have f0 := hI.1
        replace hI := hI.2
        have f1 := hI.1
        replace hI := hI.2
        have f2 := hI.1
        replace hI := hI.2
        have f3 := hI.1
        replace hI := hI.2
        have f4 := hI.1
        replace hI := hI.2
        have f5 := hI.1
        replace hI := hI.2
        have f6 := hI.1
        replace hI := hI.2
        have f7 := hI.1
        replace hI := hI.2
        have f8 := hI.1
        replace hI := hI.2
        have f9 := hI.1
        replace hI := hI.2
        have f10 := hI.1
        replace hI := hI.2
        have f11 := hI
        clear hI
        have q0 := keep hG q0
        have q1 := keep hG q1
        have q2 := keep hG q2
        have s0 := keep hG s0
        have s2 := keep hG s2
        have s3 := keep hG s3
        have g8 := f8 (hD.on 8 (by kernel_rfl))
        try simp only [puts, Act.put, List.setIfInBounds_toArray, List.set_cons_zero, List.set_cons_succ]
        obtain ⟨b7, rfl, hB7⟩ := g8 hL
        go_simp
        generalize hW' : World.alloc W _ = W'
        have hb : Below W.heap.size W W' := by rw [← hW']; exact bal W _
        exact hK.out _ _ _ (by simp only [puts, Act.put, List.setIfInBounds_toArray, List.set_cons_zero, List.set_cons_succ] <;> rfl) ⟨below2 hG hb, (fun h => (fun h => fun h3 => let ⟨b0, a1, a2, a3⟩ := h h3; ⟨b0, a1, a2, a3.later hb⟩) (f0 h)), (fun h => f1 h), (fun h => f2 h), (fun h => (fun h => fun h9 => (h h9).later' hb) (f3 h)), (fun h => f4 h), (fun h => f5 h), (fun h => f6 h), (fun h => f7 h), (fun h => (fun _ h8 => absurd h8 (by simp)) (f8 h)), (fun _ => fun _ => ⟨W.heap.size, b7, hG.size, rfl, by rw [← hW']; exact Blk.newA W _ rfl, hB7.later hb⟩), (fun h => (fun h => ⟨h.1, h.2.below hb⟩) (f10 h)), (fun h => f11 h)⟩
      · intro L vs W hlen hL hD hI K hK
        obtain ⟨x0, x1, x2, x3, x4, x5, x6, x7, x8, x9, x10, x11, rfl⟩ := len12 hlen
        have hG := hI.1
        replace hI := hI.2
        have f0 := hI.1
        replace hI := hI.2
        have f1 := hI.1
        replace hI := hI.2
        have f2 := hI.1
        replace hI := hI.2
        have f3 := hI.1
        replace hI := hI.2
        have f4 := hI.1
        replace hI := hI.2
        have f5 := hI.1
        replace hI := hI.2
        have f6 := hI.1
        replace hI := hI.2
        have f7 := hI.1
        replace hI := hI.2
        have f8 := hI.1
        replace hI := hI.2
        have f9 := hI.1
        replace hI := hI.2
        have f10 := hI.1
        replace hI := hI.2
        have f11 := hI
        clear hI
        have q0 := keep hG q0
        have q1 := keep hG q1
        have q2 := keep hG q2
        have s0 := keep hG s0
        have s2 := keep hG s2
        have s3 := keep hG s3
        have g3 := f3 (hD.on 3 (by kernel_rfl))
        have g9 := f9 (hD.on 9 (by kernel_rfl))
        try simp only [puts, Act.put, List.setIfInBounds_toArray, List.set_cons_zero, List.set_cons_succ]
        obtain ⟨b8, b7, hb8, rfl, hB8, hB7⟩ := g9 hL
        refine step_app_recs3 infoRow rfl (by decide) Try.underlying27 rfl _ _ rfl W7.heap.size _ Lr rfl (g3 hL) _ _ _ [rowCells (goalF gain (bg - 1)) (.slice (some ⟨b7, 0, none⟩) gain.length gain.length)] rfl rfl (fun r hr => by simp at hr; rw [hr]; rfl) (fun u hu => rowCells_one u (by simpa using hu)) (news2 hB8) (fun e => by cases e) (by simp; omega) (by simp; omega) hG.size ?_
        intro v' W' hO hg
        have hb := below_own (g3 hL) hG.size hg
        exact hK.out _ _ _ (by simp only [puts, Act.put, List.setIfInBounds_toArray, List.set_cons_zero, List.set_cons_succ] <;> rfl) ⟨hG.trans hb, (fun h => (fun _ h3 => absurd (h3.symm.trans (hD.on 3 (by kernel_rfl))) (by decide)) (f0 h)), (fun h => f1 h), (fun h => f2 h), (fun h => (fun _ h9 => absurd h9 (by simp)) (f3 h)), (fun h => f4 h), (fun h => f5 h), (fun h => f6 h), (fun h => f7 h), (fun h => (fun _ h8 => absurd (h8.symm.trans (hD.on 9 (by kernel_rfl))) (by decide)) (f8 h)), (fun h => (fun _ h9 => absurd h9 (by simp)) (f9 h)), (fun _ => ⟨hD.on 3 (by kernel_rfl), goal_rows HLl.out hgl (HLS7.out) hG (g3 hL) hB7 hO hg⟩), (fun h => (fun h => absurd (h.1.symm.trans hL) (by decide)) (f11 h))⟩
      · intro L vs W hlen hL hD hI K hK
        obtain ⟨x0, x1, x2, x3, x4, x5, x6, x7, x8, x9, x10, x11, rfl⟩ := len12 hlen
        have hG := hI.1
        replace hI := hI.2
        have f0 := hI.1
        replace hI := hI.2
        have f1 := hI.1
        replace hI := hI.2
        have f2 := hI.1
        replace hI := hI.2
        have f3 := hI.1
        replace hI := hI.2
        have f4 := hI.1
        replace hI := hI.2
        have f5 := hI.1
        replace hI := hI.2
        have f6 := hI.1
        replace hI := hI.2
        have f7 := hI.1
        replace hI := hI.2
        have f8 := hI.1
        replace hI := hI.2
        have f9 := hI.1
        replace hI := hI.2
        have f10 := hI.1
        replace hI := hI.2
        have f11 := hI
        clear hI
        have q0 := keep hG q0
        have q1 := keep hG q1
        have q2 := keep hG q2
        have s0 := keep hG s0
        have s2 := keep hG s2
        have s3 := keep hG s3
        have g10 := f10 (hD.on 10 (by kernel_rfl))
        try simp only [puts, Act.put, List.setIfInBounds_toArray, List.set_cons_zero, List.set_cons_succ]
        try go_simp
        exact hK.out _ _ _ (by simp only [puts, Act.put, List.setIfInBounds_toArray, List.set_cons_zero, List.set_cons_succ] <;> rfl) ⟨hG, (fun h => f0 h), (fun h => f1 h), (fun h => f2 h), (fun h => f3 h), (fun h => f4 h), (fun h => f5 h), (fun h => f6 h), (fun h => f7 h), (fun h => f8 h), (fun h => f9 h), (fun h => f10 h), (fun _ => ⟨hD.on 10 (by kernel_rfl), rfl⟩)⟩
    intro L vs W hlen hall hI
    obtain ⟨x0, x1, x2, x3, x4, x5, x6, x7, x8, x9, x10, x11, rfl⟩ := len12 hlen
    have hG := hI.1
    replace hI := hI.2
    have f0 := hI.1
    replace hI := hI.2
    have f1 := hI.1
    replace hI := hI.2
    have f2 := hI.1
    replace hI := hI.2
    have f3 := hI.1
    replace hI := hI.2
    have f4 := hI.1
    replace hI := hI.2
    have f5 := hI.1
    replace hI := hI.2
    have f6 := hI.1
    replace hI := hI.2
    have f7 := hI.1
    replace hI := hI.2
    have f8 := hI.1
    replace hI := hI.2
    have f9 := hI.1
    replace hI := hI.2
    have f10 := hI.1
    replace hI := hI.2
    have f11 := hI
    clear hI
    have g0 := f0 (hall 0 (by decide))
    obtain rfl := f1 (hall 1 (by decide))
    obtain rfl := f2 (hall 2 (by decide))
    have g3 := f3 (hall 3 (by decide))
    obtain rfl := f4 (hall 4 (by decide))
    obtain rfl := f5 (hall 5 (by decide))
    obtain rfl := f6 (hall 6 (by decide))
    obtain rfl := f7 (hall 7 (by decide))
    have g8 := f8 (hall 8 (by decide))
    have g9 := f9 (hall 9 (by decide))
    have g10 := f10 (hall 10 (by decide))
    have g11 := f11 (hall 11 (by decide))
    clear hall f0 f1 f2 f3 f4 f5 f6 f7 f8 f9 f10 f11
    try simp only [puts, Act.put, List.setIfInBounds_toArray, List.set_cons_zero, List.set_cons_succ]
    obtain ⟨W8, rfl⟩ : ∃ W', W' = W := ⟨_, rfl⟩
    obtain ⟨-, rfl⟩ := g11
    have hrw8 := g10.2
    have hb68 := below2 hb67 hG
    have p8 := p7.keeps (keeps_of_below hG)
    have bS8 := bS7.later hG
    have o8 := ho6'.below hb68
    have hr17 := hrw7.below hG
    have hbw8 := below2 hbw6 hb68
    clear g10 q0 q1 q2 s0 s2 s3 hG hrw7 p7 bP7 bS7 bP6 bS6 hp6 hr6 hg6 ho6'
    have s3 := bS8.cell 3 rfl
    go_wp2_with fail
    refine (refutes_any (rows ++ [goalF gain bg]) _ _ PL hrl9 (PL.length + n + 1) 0 _ _ _ hn12 HR1.out hr17 p8 o8 (fun _ => by omega)).mono ?_
    rintro e W9 ⟨rfl, hb9⟩
    rw [show refutesF (rows ++ [goalF gain bg]) PL (PL.length + n + 1) 0 (decF n 0 0) = true by have := HRF.out (PL.length + n + 1) (by omega); rwa [HRS.out] at this]
    have t3 := (bS8.later hb9).cell 3 rfl
    clear s3
    go_wp2_with fail
    refine (refutes_any (rows ++ [goalF gain (bg - 1)]) _ _ PL hrl9' (PL.length + n + 1) 0 _ _ _ hn12 HR2.out (hrw8.below hb9) (p8.keeps (keeps_of_below hb9)) (o8.below hb9) (fun _ => by omega)).mono ?_
    rintro e W10 ⟨rfl, hb10⟩
    rw [HLS2.out]
    go_wp2_with fail
    go_ret
    exact ⟨rfl, below2 hbw8 (below2 hb9 hb10)⟩
end Go.Proofs.Ytcaklldmcbpbfaa
