/- Walk of check of package proof, its deferred closure, and what leans on it. Conditions: how the program and the proof lie in memory; sizes. -/
import Derived.Test.YtppfdjjhloaopaaPfC
import Derived.Defers
import Derived.Recover
namespace Go.Proofs.Ytppfdjjhloaopaa
open Go.RowKit

theorem run_wrong (k : Int) (w : World) : (Instr.typeAssert (wrongV k) 20 97 true).run Try.prog w = .ok (.tuple #[.agg #[.int .i64 k], .bool true]) w := by kernel_rfl
theorem run_nowrong (w : World) : (Instr.typeAssert .nilIface 20 97 true).run Try.prog w = .ok (.tuple #[.agg #[.int .i64 0], .bool false]) w := by kernel_rfl
set_option maxRecDepth 20000 in
theorem catch_panic (BA BU : Nat) (x k : Int) (mv : Value) (older : List PanicEntry) (w : World) (hA : Blk w BA [.int .i64 x] 3) (hU : Blk w BU [mv] 76) (hne : BA ≠ BU) :
    CallsD Try.prog 59 #[.pointer (some ⟨BA, 0, none⟩), .pointer (some ⟨BU, 0, none⟩)] (.panicking ({ v := wrongV k, recovered := false } :: older)) w fun e u' w' =>
      e = .returned (.tuple #[]) ∧ u' = .panicking ({ v := wrongV k, recovered := true } :: older) ∧ w' = ((w.alloc (.cells #[.int .i64 k] 97)).setCell ⟨BA, 0, none⟩ (.int .i64 k)).setCell ⟨BU, 0, none⟩ (.map none) := by
  refine callsD_of_wpS Try.func59 rfl fun c₀ cs hu => ?_
  have a0 := hA.cell 0 rfl
  have f0 := hA.frozen 0
  have b0 := hU.cell 0 rfl
  have g0 := hU.frozen 0
  apply wpS_seq
  apply wpS_region
  have h1 := run_wrong k w
  have n0 : Try.f59.ntmps = 12 := rfl
  simp only [n0, List.size_toArray, List.length_cons, List.length_nil, Nat.reduceAdd, Nat.reduceSub, Array.replicate_succ, Array.replicate_zero, List.push_toArray, List.append_toArray, List.nil_append, List.cons_append]
  simp [wpOpsS, go_sem, recoverD, hu, Exit.thenS, h1]
  have hb := bal w (.cells #[.int .i64 k] 97)
  have bW : Blk (w.alloc (.cells #[.int .i64 k] 97)) w.heap.size [.int .i64 k] 97 := Blk.new w _ _
  have hA1 := hA.later hb
  have hU1 := hU.later hb
  generalize World.alloc w _ = W1 at *
  have a1 := hA1.cell 0 rfl
  have f1 := hA1.frozen 0
  have hU2 := hU1.other (show BU ≠ BA from hne.symm) 0 (.int .i64 k)
  have b1 := hU2.cell 0 rfl
  have g1 := hU2.frozen 0
  have c1 := bW.cell 0 rfl
  clear a0 f0 b0 g0
  apply wpS_seq
  apply wpS_region
  simp [wpOpsS, go_sem, Exit.thenS]
  refine wpS_cond (t := true) (by simp [Act.eval]) ?_
  simp only [if_true]
  apply wpS_region
  simp [wpOpsS, go_sem, c1, a1, f1, b1, g1, bodyPostS, results, Try.results59]
theorem catch_none (BA BU : Nat) (w : World) :
    CallsD Try.prog 59 #[.pointer (some ⟨BA, 0, none⟩), .pointer (some ⟨BU, 0, none⟩)] .returning w fun e u' w' => e = .returned (.tuple #[]) ∧ u' = .returning ∧ w' = w.alloc (.cells #[.int .i64 0] 97) := by
  refine callsD_of_wpS Try.func59 rfl fun c₀ cs hu => ?_
  apply wpS_seq
  apply wpS_region
  have h1 := run_nowrong w
  have n0 : Try.f59.ntmps = 12 := rfl
  simp only [n0, List.size_toArray, List.length_cons, List.length_nil, Nat.reduceAdd, Nat.reduceSub, Array.replicate_succ, Array.replicate_zero, List.push_toArray, List.append_toArray, List.nil_append, List.cons_append]
  simp [wpOpsS, go_sem, recoverD, hu, Exit.thenS, h1]
  apply wpS_seq
  apply wpS_region
  simp [wpOpsS, go_sem, Exit.thenS]
  refine wpS_cond (t := false) (by simp [Act.eval]) ?_
  simp only [Bool.false_eq_true, if_false]
  refine wpS_of_wp (wp_skip ?_)
  cases c₀
  simp_all [bodyPostS, results, Try.results59]
/-- the first step of a proof that is wrong, as check finds it -/
def checkF (p : ProgD) (rows : List RowD) (l : List StepD) : Int :=
  if validB p && decide (l.length ≤ 8192) then (if l.length = 0 then 0 else wrongF rows l l.length 0 (List.replicate p.vars.toNat (-1))) else -2
def CheckQ (at_ : Int) (us : List Int) (w : World) (e : Ending) (w' : World) : Prop :=
  Below w.heap.size w w' ∧ ∃ mv : Option Nat, e = .returned (.tuple #[.int .i64 at_, .map mv]) ∧ (at_ = -1 → ∃ b, mv = some b ∧ OwnM w' b 900000 us) ∧ (at_ ≠ -1 → mv = none)
theorem run_mkmap (W : World) : (Instr.makeMap 76 none).run Try.prog W = .ok (.map (some W.heap.size)) (W.alloc (.map #[] 0)) := by
  simp [Instr.makeMap, go_sem]
set_option maxRecDepth 20000 in
set_option maxHeartbeats 2000000 in
theorem check_any (p : ProgD) (rv gv : Value) (rows : List RowD) (rv2 : Value) (l : List StepD) (sv : Value) (w : World) (hr : RowsAt w rv p.rows) (hg : IntsAt w gv p.gain) (hr2 : RowsAt w rv2 rows) (hs : StepsIn w.cell? sv l) (hrl : validB p = true → rows.length ≤ 1000) (hro : validB p = true → RowsOk rows p.vars.toNat) :
    Calls Try.prog 38 #[progV p rv gv, rv2, sv] w (CheckQ (checkF p rows l) (reachF l l.length 0) w) := by
  have hmk : ∀ W : World, (Instr.makeMap 76 none).run Try.prog W = .ok (.map (some W.heap.size)) (W.alloc (.map #[] 0)) := fun W => run_mkmap W
  have hmf : ∀ (fn : Fn) (first cap : Array Value) (w : World), (Instr.makeFunc fn first cap).run Try.prog w = .ok (.func fn first cap) w := fun _ _ _ _ => rfl
  obtain ⟨pa, pc, rfl, -, hpm, -⟩ := id hr
  obtain ⟨ga, gc, rfl, -, hgm, -⟩ := id hg
  obtain ⟨ra, rc, rfl, -, hrm, -⟩ := id hr2
  obtain ⟨sa, sc, rfl, hsn, hsm, -⟩ := id hs
  have hsl : (l.length : Int) ≤ 9223372036854775807 := by have : l.length ≤ sc := hsn; omega
  have HCF : Hid (checkF p rows l = if validB p && decide (l.length ≤ 8192) then (if l.length = 0 then 0 else wrongF rows l l.length 0 (List.replicate p.vars.toNat (-1))) else -2) := hide rfl
  generalize checkF p rows l = CF at HCF ⊢
  clear hpm hgm hrm hsm hsn
  cases hv : validB p
  · rw [hv] at HCF
    clear hro hrl
    have hcf : CF = -2 := by rw [HCF.out]; rfl
    subst hcf
    go_enter_defers Try.func38, Try.ntmps38
    go_wp2_with fail
    generalize hX1 : World.alloc w _ = X1
    have zX1 : X1.heap.size = w.heap.size + 1 := by rw [← hX1]; simp
    have bX1 : Below w.heap.size w X1 := by rw [← hX1]; exact bal w _
    have bP_1 : Blk X1 (w.heap.size) [.int .i64 p.vars, .slice pa p.rows.length pc, .slice ga p.gain.length gc] 27 := by rw [← hX1]; exact Blk.newA w _ (by first | rfl | simp)
    generalize hX2 : World.alloc X1 _ = X2
    have zX2 : X2.heap.size = w.heap.size + 1 + 1 := by rw [← hX2]; simp [zX1]
    have bX2 : Below X1.heap.size X1 X2 := by rw [← hX2]; exact bal X1 _
    have bA_2 : Blk X2 (w.heap.size + 1) [.int .i64 0] 3 := by rw [← hX2, ← zX1]; exact Blk.newA X1 _ (by first | rfl | simp)
    have bP_2 := bP_1.later bX2
    generalize hX3 : World.alloc X2 _ = X3
    have zX3 : X3.heap.size = w.heap.size + 1 + 1 + 1 := by rw [← hX3]; simp [zX2]
    have bX3 : Below X2.heap.size X2 X3 := by rw [← hX3]; exact bal X2 _
    have bU : Blk X3 (w.heap.size + 1 + 1) [.map none] 76 := by rw [← hX3, ← zX2]; exact Blk.newA X2 _ (by first | rfl | simp)
    have bP := bP_2.later bX3
    have bA := bA_2.later bX3
    have Xb := below2 (below2 (bX1) bX2) bX3
    have Xz := zX3
    clear hX1 zX1 bX1 hX2 zX2 bX2 hX3 zX3 bX3 bP_1 bP_2 bA_2
    refine (validp_any p _ _ X3 (hr.below Xb) (hg.below Xb)).mono ?_
    rw [hv]
    rintro e w1 ⟨rfl, hb1⟩
    have hw1 := below2 Xb hb1
    replace bP := bP.later hb1
    replace bA := bA.later hb1
    replace bU := bU.later hb1
    have p0 := bP.cell 0 rfl
    have a0 := bA.cell 0 rfl
    have fA := bA.frozen 0
    have bU1 := bU.other (show w.heap.size + 1 + 1 ≠ w.heap.size + 1 by omega) 0 (.int .i64 (-2))
    have u0 := bU.cell 0 rfl
    have u1 := bU1.cell 0 rfl
    have fU := bU1.frozen 0
    clear hv
    go_wp2_with fail
    have bU2 := bU1.set 0 (.map none)
    have bA2 := (bA.set 0 (.int .i64 (-2))).other (show w.heap.size + 1 ≠ w.heap.size + 1 + 1 by omega) 0 (.map none)
    have hw2 := (hw1.setCell (p := ⟨w.heap.size + 1, 0, none⟩) (show w.heap.size ≤ w.heap.size + 1 by omega) (.int .i64 (-2))).setCell (p := ⟨w.heap.size + 1 + 1, 0, none⟩) (show w.heap.size ≤ w.heap.size + 1 + 1 by omega) (.map none)
    generalize World.setCell (World.setCell w1 ⟨w.heap.size + 1, 0, none⟩ (.int .i64 (-2))) ⟨w.heap.size + 1 + 1, 0, none⟩ (.map none) = W2 at bU2 bA2 hw2 ⊢
    have y0 := bU2.cell 0 rfl
    have y1 := bA2.cell 0 rfl
    have hQ : CheckQ (-2) (reachF l l.length 0) w (.returned (.tuple #[.int .i64 (-2), .map none])) W2 := ⟨hw2, none, rfl, (fun h => by omega), fun _ => rfl⟩
    clear bU2 bA2 hw2 bU1 bA bU bP hw1 hb1
    simp [bodyPostD, Leaves, results, Try.results38, go_sem, y0, y1]
    exact hQ
  · by_cases hlen : l.length ≤ 8192
    · have hro := hro hv
      have hrl := hrl hv
      rw [hv] at HCF
      have HCG : Hid (CF = if l.length = 0 then 0 else wrongF rows l l.length 0 (List.replicate p.vars.toNat (-1))) := hide (by rw [HCF.out]; simp [hlen])
      have h8 : decide ((8192 : Int) < l.length) = false := decide_eq_false (by omega)
      have HVP := hide (show 0 ≤ p.vars ∧ p.vars ≤ 12 from ⟨(valid_parts hv).1, (valid_parts hv).2.1⟩)
      clear HCF
      by_cases hl0 : l.length = 0
      · have q0 : decide ((0 : Int) < l.length) = false := decide_eq_false (by omega)
        have hcf : CF = 0 := by rw [HCG.out, if_pos hl0]
        subst hcf
        clear HCG hl0 hro hlen
        go_enter_defers Try.func38, Try.ntmps38
        go_wp2_with fail
        generalize hX1 : World.alloc w _ = X1
        have zX1 : X1.heap.size = w.heap.size + 1 := by rw [← hX1]; simp
        have bX1 : Below w.heap.size w X1 := by rw [← hX1]; exact bal w _
        have bP_1 : Blk X1 (w.heap.size) [.int .i64 p.vars, .slice pa p.rows.length pc, .slice ga p.gain.length gc] 27 := by rw [← hX1]; exact Blk.newA w _ (by first | rfl | simp)
        generalize hX2 : World.alloc X1 _ = X2
        have zX2 : X2.heap.size = w.heap.size + 1 + 1 := by rw [← hX2]; simp [zX1]
        have bX2 : Below X1.heap.size X1 X2 := by rw [← hX2]; exact bal X1 _
        have bA_2 : Blk X2 (w.heap.size + 1) [.int .i64 0] 3 := by rw [← hX2, ← zX1]; exact Blk.newA X1 _ (by first | rfl | simp)
        have bP_2 := bP_1.later bX2
        generalize hX3 : World.alloc X2 _ = X3
        have zX3 : X3.heap.size = w.heap.size + 1 + 1 + 1 := by rw [← hX3]; simp [zX2]
        have bX3 : Below X2.heap.size X2 X3 := by rw [← hX3]; exact bal X2 _
        have bU : Blk X3 (w.heap.size + 1 + 1) [.map none] 76 := by rw [← hX3, ← zX2]; exact Blk.newA X2 _ (by first | rfl | simp)
        have bP := bP_2.later bX3
        have bA := bA_2.later bX3
        have Xb := below2 (below2 (bX1) bX2) bX3
        have Xz := zX3
        clear hX1 zX1 bX1 hX2 zX2 bX2 hX3 zX3 bX3 bP_1 bP_2 bA_2
        refine (validp_any p _ _ X3 (hr.below Xb) (hg.below Xb)).mono ?_
        rw [hv]
        rintro e w1 ⟨rfl, hb1⟩
        have hw1 := below2 Xb hb1
        replace bP := bP.later hb1
        replace bA := bA.later hb1
        replace bU := bU.later hb1
        have p0 := bP.cell 0 rfl
        have a0 := bA.cell 0 rfl
        have fA := bA.frozen 0
        have bU1 := bU.other (show w.heap.size + 1 + 1 ≠ w.heap.size + 1 by omega) 0 (.int .i64 (-2))
        have u0 := bU.cell 0 rfl
        have u1 := bU1.cell 0 rfl
        have fU := bU1.frozen 0
        clear hv
        go_wp2_with fail
        generalize hY1 : World.alloc w1 _ = Y1
        have z1 : Y1.heap.size = w1.heap.size + 1 := by rw [← hY1]; simp
        have bY1 : Below w1.heap.size w1 Y1 := by rw [← hY1]; exact bal w1 _
        have hM1 : OwnM Y1 w1.heap.size 0 [] := by rw [← hY1]; exact OwnM.made w1
        generalize hY2 : World.alloc Y1 _ = Y2
        have bY2 : Below Y1.heap.size Y1 Y2 := by rw [← hY2]; exact bal Y1 _
        have bC : Blk Y2 (w1.heap.size + 1) [.int .i64 p.vars, .slice ra rows.length rc, .slice sa l.length sc, .map (some w1.heap.size)] 101 := by rw [← hY2, ← z1]; exact Blk.newA Y1 _ rfl
        have hM := hM1.later bY2
        have hbY := below2 bY1 bY2
        have hwY := below2 hw1 hbY
        replace bA := bA.later hbY
        replace bU := bU.later hbY
        have hz1 := hw1.size
        have hAlt : w.heap.size + 1 + 1 < w1.heap.size := by have := hb1.size; omega
        clear hY1 hY2 z1 bY1 bY2 hM1 bU1 fU u1 u0 a0 fA p0 hb1 hbY Xz
        have q1 : decide (0 < l.length) = false := by simpa using q0
        rw [q1]
        refine (need_no _ _).mono ?_
        rintro e w2 ⟨rfl, hw⟩
        rw [hw]
        clear hw w2
        refine leaves_cons (f := 59) (args := #[.pointer (some ⟨w.heap.size + 1, 0, none⟩), .pointer (some ⟨w.heap.size + 1 + 1, 0, none⟩)]) (by simp) (by simp [go_sem]) ?_
        refine (catch_panic _ _ 0 0 _ [] Y2 bA bU (by omega)).mono ?_
        rintro e u' w9 ⟨rfl, rfl, hw9⟩
        have hb9 := bal Y2 (.cells #[.int .i64 0] 97)
        have bA9 := ((bA.later hb9).set 0 (.int .i64 0)).other (show w.heap.size + 1 ≠ w.heap.size + 1 + 1 by omega) 0 (.map none)
        have bU9 := ((bU.later hb9).other (show w.heap.size + 1 + 1 ≠ w.heap.size + 1 by omega) 0 (.int .i64 0)).set 0 (.map none)
        have hW9 := ((below2 hwY hb9).setCell (p := ⟨w.heap.size + 1, 0, none⟩) (show w.heap.size ≤ w.heap.size + 1 by omega) (.int .i64 0)).setCell (p := ⟨w.heap.size + 1 + 1, 0, none⟩) (show w.heap.size ≤ w.heap.size + 1 + 1 by omega) (.map none)
        rw [← hw9] at bA9 bU9 hW9
        have y0 := bU9.cell 0 rfl
        have y1 := bA9.cell 0 rfl
        clear hw9 bA9 bU9 hb9
        simp [Leaves, settle, results, Try.results38, go_sem, y0, y1]
        exact ⟨hW9, none, rfl, (fun h => by omega), fun _ => rfl⟩
      · have q1 : decide (0 < l.length) = true := decide_eq_true (by omega)
        have HCH : Hid (CF = wrongF rows l l.length 0 (List.replicate p.vars.toNat (-1))) := hide (by rw [HCG.out, if_neg hl0])
        have HL1 := hide (show 0 < l.length ∧ l.length ≤ 8192 from ⟨by omega, hlen⟩)
        have HRO := hide hro
        clear HCG hl0 hro hlen
        go_enter_defers Try.func38, Try.ntmps38
        go_wp2_with fail
        generalize hX1 : World.alloc w _ = X1
        have zX1 : X1.heap.size = w.heap.size + 1 := by rw [← hX1]; simp
        have bX1 : Below w.heap.size w X1 := by rw [← hX1]; exact bal w _
        have bP_1 : Blk X1 (w.heap.size) [.int .i64 p.vars, .slice pa p.rows.length pc, .slice ga p.gain.length gc] 27 := by rw [← hX1]; exact Blk.newA w _ (by first | rfl | simp)
        generalize hX2 : World.alloc X1 _ = X2
        have zX2 : X2.heap.size = w.heap.size + 1 + 1 := by rw [← hX2]; simp [zX1]
        have bX2 : Below X1.heap.size X1 X2 := by rw [← hX2]; exact bal X1 _
        have bA_2 : Blk X2 (w.heap.size + 1) [.int .i64 0] 3 := by rw [← hX2, ← zX1]; exact Blk.newA X1 _ (by first | rfl | simp)
        have bP_2 := bP_1.later bX2
        generalize hX3 : World.alloc X2 _ = X3
        have zX3 : X3.heap.size = w.heap.size + 1 + 1 + 1 := by rw [← hX3]; simp [zX2]
        have bX3 : Below X2.heap.size X2 X3 := by rw [← hX3]; exact bal X2 _
        have bU : Blk X3 (w.heap.size + 1 + 1) [.map none] 76 := by rw [← hX3, ← zX2]; exact Blk.newA X2 _ (by first | rfl | simp)
        have bP := bP_2.later bX3
        have bA := bA_2.later bX3
        have Xb := below2 (below2 (bX1) bX2) bX3
        have Xz := zX3
        clear hX1 zX1 bX1 hX2 zX2 bX2 hX3 zX3 bX3 bP_1 bP_2 bA_2
        refine (validp_any p _ _ X3 (hr.below Xb) (hg.below Xb)).mono ?_
        rw [hv]
        rintro e w1 ⟨rfl, hb1⟩
        have hw1 := below2 Xb hb1
        replace bP := bP.later hb1
        replace bA := bA.later hb1
        replace bU := bU.later hb1
        have p0 := bP.cell 0 rfl
        have a0 := bA.cell 0 rfl
        have fA := bA.frozen 0
        have bU1 := bU.other (show w.heap.size + 1 + 1 ≠ w.heap.size + 1 by omega) 0 (.int .i64 (-2))
        have u0 := bU.cell 0 rfl
        have u1 := bU1.cell 0 rfl
        have fU := bU1.frozen 0
        clear hv
        go_wp2_with fail
        generalize hY1 : World.alloc w1 _ = Y1
        have z1 : Y1.heap.size = w1.heap.size + 1 := by rw [← hY1]; simp
        have bY1 : Below w1.heap.size w1 Y1 := by rw [← hY1]; exact bal w1 _
        have hM1 : OwnM Y1 w1.heap.size 0 [] := by rw [← hY1]; exact OwnM.made w1
        generalize hY2 : World.alloc Y1 _ = Y2
        have bY2 : Below Y1.heap.size Y1 Y2 := by rw [← hY2]; exact bal Y1 _
        have bC : Blk Y2 (w1.heap.size + 1) [.int .i64 p.vars, .slice ra rows.length rc, .slice sa l.length sc, .map (some w1.heap.size)] 101 := by rw [← hY2, ← z1]; exact Blk.newA Y1 _ rfl
        have hM := hM1.later bY2
        have hbY := below2 bY1 bY2
        have hwY := below2 hw1 hbY
        replace bA := bA.later hbY
        replace bU := bU.later hbY
        have hz1 := hw1.size
        have hAlt : w.heap.size + 1 + 1 < w1.heap.size := by have := hb1.size; omega
        clear hY1 hY2 z1 bY1 bY2 hM1 bU1 fU u1 u0 a0 fA p0 hb1 hbY Xz
        refine (need_yes _ _).mono ?_
        rintro e w2 ⟨rfl, hw⟩
        rw [hw]
        clear hw w2
        have HWK : Hid (Calls Try.prog 61 #[.pointer (some ⟨w1.heap.size + 1, 0, none⟩), .int .i64 0, .agg #[.int .i64 0, .int .i64 0, .int .i64 0, .int .i64 0, .int .i64 0, .int .i64 0, .int .i64 0, .int .i64 0, .int .i64 0, .int .i64 0, .int .i64 0, .int .i64 0]] Y2 (WalkQ w1.heap.size 0 [] CF (8 * 2 ^ 12) (reachF l l.length 0) Y2)) := by
          have hvp := HVP.out
          have e1 : ((List.replicate p.vars.toNat (-1 : Int)).length : Int) = p.vars := by rw [List.length_replicate]; omega
          have h := walk_any rows l hrl (by have := HL1.out.2; omega) (w1.heap.size + 1) w1.heap.size (.slice ra rows.length rc) (.slice sa l.length sc) l.length 12 0 (List.replicate p.vars.toNat (-1)) 0 [] Y2 (by rw [List.length_replicate]; omega) (by rw [List.length_replicate]; exact HRO.out)
            (by have := List.countP_le_length (p := fun x : Int => decide (x < 0)) (l := List.replicate p.vars.toNat (-1)); rw [List.length_replicate] at this; unfold openN; omega) HL1.out.1 (by omega) (by omega) (by rw [e1]; exact bC) (hr2.below hwY) (hs.keeps (keeps_of_below hwY)) hM
          rw [encD_none, ← HCH.out] at h
          exact h
        have HCR : Hid (-1 ≤ CF) := hide (by rw [HCH.out]; exact wrongF_range _ _ _ _ _)
        go_wp2_with fail
        refine HWK.out.mono ?_
        rintro e w7 ⟨hg7, ⟨h1, rfl, hM7⟩ | ⟨h1, rfl⟩⟩
        · subst h1
          have bA7 : Blk w7 (w.heap.size + 1) _ _ := (hg7.block _ bA.lt (by simp; omega)).trans bA
          have bU7 : Blk w7 (w.heap.size + 1 + 1) _ _ := (hg7.block _ bU.lt (by simp; omega)).trans bU
          have bC7 : Blk w7 (w1.heap.size + 1) _ _ := (hg7.block _ bC.lt (by simp)).trans bC
          have hw7 := hwY.grown hg7 hwY.size (fun j hj => by cases hj; exact hw1.size)
          have y0 := bA7.cell 0 rfl
          have y1 := bA7.frozen 0
          have bU8 := bU7.other (show w.heap.size + 1 + 1 ≠ w.heap.size + 1 by omega) 0 (.int .i64 (-1))
          have y2 := bU8.cell 0 rfl
          have y3 := bU8.frozen 0
          have y4 := bC7.cell 3 rfl
          have y5 := bU7.cell 0 rfl
          have y6 := bU7.frozen 0
          clear HWK bC hM bA bU
          go_wp2_with fail
          go_region
          have bA8 := (bA7.set 0 (.int .i64 (-1))).other (show w.heap.size + 1 ≠ w.heap.size + 1 + 1 by omega) 0 (.map (some w1.heap.size))
          have bU9 := bU8.set 0 (.map (some w1.heap.size))
          have hM8 := (hM7.set (show w.heap.size + 1 ≠ w1.heap.size by omega) 0 (.int .i64 (-1))).set (show w.heap.size + 1 + 1 ≠ w1.heap.size by omega) 0 (.map (some w1.heap.size))
          have hw8 := ((hw7.setCell (p := ⟨w.heap.size + 1, 0, none⟩) (show w.heap.size ≤ w.heap.size + 1 by omega) (.int .i64 (-1))).setCell (p := ⟨w.heap.size + 1 + 1, 0, none⟩) (show w.heap.size ≤ w.heap.size + 1 + 1 by omega) (.map (some w1.heap.size))).drew
          obtain ⟨W8, hW8⟩ : ∃ W8, World.drew (World.setCell (World.setCell w7 ⟨w.heap.size + 1, 0, none⟩ (.int .i64 (-1))) ⟨w.heap.size + 1 + 1, 0, none⟩ (.map (some w1.heap.size))) = W8 := ⟨_, rfl⟩
          have hb9 := bal W8 (.cells #[.int .i64 0] 97)
          have hD1 : ∀ W b vs t, World.drew W = W8 → Blk W b vs t → Blk W8 b vs t := fun W b vs t e h => by rw [← e]; exact h
          have hD2 : ∀ W b n ks, World.drew W = W8 → OwnM W b n ks → OwnM W8 b n ks := fun W b n ks e h => by rw [← e]; exact h
          replace bA8 := hD1 _ _ _ _ hW8 bA8
          replace bU9 := hD1 _ _ _ _ hW8 bU9
          replace hM8 := hD2 _ _ _ _ hW8 hM8
          clear hD1 hD2
          rw [hW8] at hw8 ⊢
          replace bA8 := bA8.later hb9
          replace bU9 := bU9.later hb9
          replace hM8 := hM8.later hb9
          replace hw8 := below2 hw8 hb9
          clear hW8 bU8 bA7 bU7 bC7 hw7 y0 y1 y2 y3 y4 y5 y6 hM7 hg7
          go_wp2_with fail
          refine leaves_cons (f := 59) (args := #[.pointer (some ⟨w.heap.size + 1, 0, none⟩), .pointer (some ⟨w.heap.size + 1 + 1, 0, none⟩)]) (by simp) (by simp [go_sem]) ?_
          refine (catch_none _ _ W8).mono ?_
          rintro e u' w9 ⟨rfl, rfl, hw9⟩
          rw [← hw9] at bA8 bU9 hM8 hw8
          have y0 := bU9.cell 0 rfl
          have y1 := bA8.cell 0 rfl
          clear hw9 bA8 bU9 hb9
          simp [Leaves, settle, results, Try.results38, go_sem, y0, y1]
          exact ⟨hw8, some w1.heap.size, rfl, fun _ => ⟨_, rfl, by have := hM8.mono (m := 900000) (by omega); simpa using this⟩, fun h => absurd rfl h⟩
        · have bA7 : Blk w7 (w.heap.size + 1) _ _ := (hg7.block _ bA.lt (by simp; omega)).trans bA
          have bU7 : Blk w7 (w.heap.size + 1 + 1) _ _ := (hg7.block _ bU.lt (by simp; omega)).trans bU
          have hw7 := hwY.grown hg7 hwY.size (fun j hj => by cases hj; exact hw1.size)
          refine leaves_cons (f := 59) (args := #[.pointer (some ⟨w.heap.size + 1, 0, none⟩), .pointer (some ⟨w.heap.size + 1 + 1, 0, none⟩)]) (by simp) (by simp [go_sem]) ?_
          refine (catch_panic _ _ 0 CF _ [] w7 bA7 bU7 (by omega)).mono ?_
          rintro e u' w9 ⟨rfl, rfl, hw9⟩
          have hb9 := bal w7 (.cells #[.int .i64 CF] 97)
          have bA9 := ((bA7.later hb9).set 0 (.int .i64 CF)).other (show w.heap.size + 1 ≠ w.heap.size + 1 + 1 by omega) 0 (.map none)
          have bU9 := ((bU7.later hb9).other (show w.heap.size + 1 + 1 ≠ w.heap.size + 1 by omega) 0 (.int .i64 CF)).set 0 (.map none)
          have hW9 := ((below2 hw7 hb9).setCell (p := ⟨w.heap.size + 1, 0, none⟩) (show w.heap.size ≤ w.heap.size + 1 by omega) (.int .i64 CF)).setCell (p := ⟨w.heap.size + 1 + 1, 0, none⟩) (show w.heap.size ≤ w.heap.size + 1 + 1 by omega) (.map none)
          rw [← hw9] at bA9 bU9 hW9
          have y0 := bU9.cell 0 rfl
          have y1 := bA9.cell 0 rfl
          clear hw9 bA9 bU9 hb9
          simp [Leaves, settle, results, Try.results38, go_sem, y0, y1]
          exact ⟨hW9, none, rfl, (fun h => by omega), fun _ => rfl⟩
    · rw [hv] at HCF
      clear hro hrl
      have hcf : CF = -2 := by rw [HCF.out]; simp [hlen]
      subst hcf
      have h8 : (8192 : Int) < l.length := by omega
      go_enter_defers Try.func38, Try.ntmps38
      go_wp2_with fail
      generalize hX1 : World.alloc w _ = X1
      have zX1 : X1.heap.size = w.heap.size + 1 := by rw [← hX1]; simp
      have bX1 : Below w.heap.size w X1 := by rw [← hX1]; exact bal w _
      have bP_1 : Blk X1 (w.heap.size) [.int .i64 p.vars, .slice pa p.rows.length pc, .slice ga p.gain.length gc] 27 := by rw [← hX1]; exact Blk.newA w _ (by first | rfl | simp)
      generalize hX2 : World.alloc X1 _ = X2
      have zX2 : X2.heap.size = w.heap.size + 1 + 1 := by rw [← hX2]; simp [zX1]
      have bX2 : Below X1.heap.size X1 X2 := by rw [← hX2]; exact bal X1 _
      have bA_2 : Blk X2 (w.heap.size + 1) [.int .i64 0] 3 := by rw [← hX2, ← zX1]; exact Blk.newA X1 _ (by first | rfl | simp)
      have bP_2 := bP_1.later bX2
      generalize hX3 : World.alloc X2 _ = X3
      have zX3 : X3.heap.size = w.heap.size + 1 + 1 + 1 := by rw [← hX3]; simp [zX2]
      have bX3 : Below X2.heap.size X2 X3 := by rw [← hX3]; exact bal X2 _
      have bU : Blk X3 (w.heap.size + 1 + 1) [.map none] 76 := by rw [← hX3, ← zX2]; exact Blk.newA X2 _ (by first | rfl | simp)
      have bP := bP_2.later bX3
      have bA := bA_2.later bX3
      have Xb := below2 (below2 (bX1) bX2) bX3
      have Xz := zX3
      clear hX1 zX1 bX1 hX2 zX2 bX2 hX3 zX3 bX3 bP_1 bP_2 bA_2
      refine (validp_any p _ _ X3 (hr.below Xb) (hg.below Xb)).mono ?_
      rw [hv]
      rintro e w1 ⟨rfl, hb1⟩
      have hw1 := below2 Xb hb1
      replace bP := bP.later hb1
      replace bA := bA.later hb1
      replace bU := bU.later hb1
      have p0 := bP.cell 0 rfl
      have a0 := bA.cell 0 rfl
      have fA := bA.frozen 0
      have bU1 := bU.other (show w.heap.size + 1 + 1 ≠ w.heap.size + 1 by omega) 0 (.int .i64 (-2))
      have u0 := bU.cell 0 rfl
      have u1 := bU1.cell 0 rfl
      have fU := bU1.frozen 0
      clear hv hlen
      go_wp2_with fail
      have bU2 := bU1.set 0 (.map none)
      have bA2 := (bA.set 0 (.int .i64 (-2))).other (show w.heap.size + 1 ≠ w.heap.size + 1 + 1 by omega) 0 (.map none)
      have hw2 := (hw1.setCell (p := ⟨w.heap.size + 1, 0, none⟩) (show w.heap.size ≤ w.heap.size + 1 by omega) (.int .i64 (-2))).setCell (p := ⟨w.heap.size + 1 + 1, 0, none⟩) (show w.heap.size ≤ w.heap.size + 1 + 1 by omega) (.map none)
      generalize World.setCell (World.setCell w1 ⟨w.heap.size + 1, 0, none⟩ (.int .i64 (-2))) ⟨w.heap.size + 1 + 1, 0, none⟩ (.map none) = W2 at bU2 bA2 hw2 ⊢
      have y0 := bU2.cell 0 rfl
      have y1 := bA2.cell 0 rfl
      have hQ : CheckQ (-2) (reachF l l.length 0) w (.returned (.tuple #[.int .i64 (-2), .map none])) W2 := ⟨hw2, none, rfl, (fun h => by omega), fun _ => rfl⟩
      clear bU2 bA2 hw2 bU1 bA bU bP hw1 hb1
      simp [bodyPostD, Leaves, results, Try.results38, go_sem, y0, y1]
      exact hQ
end Go.Proofs.Ytppfdjjhloaopaa
